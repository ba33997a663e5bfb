/- Functions as the interpreter takes them, and that the program's are so. -/
import Derived.Test.YtkjgmcjdblhkeaaAxC
import Derived.Test.YtkjgmcjdblhkeaaProg
set_option linter.unusedVariables false
set_option maxRecDepth 100000
namespace Go.Proofs.Ytkjgmcjdblhkeaa
open Go Go.Ax
/-! #### skylightlaw49.DiffTells -/
def o3_1 : List AOper := [⟨some 5, .box (.tmp 0), none⟩,
  ⟨some 6, .box (.tmp 1), none⟩,
  ⟨some 10, .mv (.const (.bool false)), none⟩]
def o3_4 : List AOper := [⟨some 26, .fieldAddr 2 (.tmp 5), none⟩,
  ⟨some 27, .load false [.slice] (.tmp 26), none⟩,
  ⟨some 28, .len (.tmp 27), none⟩,
  ⟨some 29, .bin .gtr (.tmp 28) (.const (.int .i64 30)), none⟩,
  ⟨some 30, .mv (.tmp 29), none⟩,
  ⟨some 31, .fieldAddr 2 (.tmp 6), some (30, false)⟩,
  ⟨some 32, .load false [.slice] (.tmp 31), some (30, false)⟩,
  ⟨some 33, .len (.tmp 32), some (30, false)⟩,
  ⟨some 34, .bin .gtr (.tmp 33) (.const (.int .i64 30)), some (30, false)⟩,
  ⟨some 35, .pick (.tmp 30) (.const (.bool true)) (.tmp 34), none⟩,
  ⟨some 36, .mv (.tmp 35), none⟩,
  ⟨some 37, .mv (.tmp 2), some (36, false)⟩,
  ⟨some 38, .len (.tmp 37), some (36, false)⟩,
  ⟨some 39, .bin .gtr (.tmp 38) (.const (.int .i64 20)), some (36, false)⟩,
  ⟨some 40, .pick (.tmp 36) (.const (.bool true)) (.tmp 39), none⟩]
def o3_7 : List AOper := [⟨some 41, .call true (.func 5) [] [(false, [.bool])] true, none⟩,
  ⟨some 10, .mv (.tmp 41), none⟩]
def o3_11 : List (AOper × Option Nat) := [(⟨some 43, .load true [.int .i64, .int .i64, .slice] (.tmp 5), none⟩, none),
  (⟨some 44, .call false (.func 7) [.tmp 43] [(true, [.int .i64, .int .i64, .slice])] true, none⟩, none),
  (⟨some 45, .load true [.int .i64, .int .i64, .slice] (.tmp 6), none⟩, none),
  (⟨some 46, .call false (.func 7) [.tmp 45] [(true, [.int .i64, .int .i64, .slice])] true, none⟩, none),
  (⟨some 47, .call false (.func 6) [.tmp 44, .tmp 46] [(true, [.int .i64, .int .i64, .int .i64, .int .i64]), (false, [.bool])] false, none⟩, none),
  (⟨some 42, .mv (.tmp 47), none⟩, none),
  (⟨some 48, .extract (.tmp 42) 0, none⟩, none),
  (⟨some 49, .extract (.tmp 42) 1, none⟩, none),
  (⟨some 11, .nilCheck (.tmp 11), none⟩, none),
  (⟨none, .store 4 (.tmp 11) (.tmp 48), none⟩, none),
  (⟨some 12, .mv (.tmp 49), none⟩, none)]
def f3_11 : List AOper := [⟨some 11, .alloc [.int .i64 0, .int .i64 0, .int .i64 0, .int .i64 0], none⟩]
def o3_13 : List AOper := [⟨some 51, .load true [.int .i64, .int .i64, .slice] (.tmp 5), none⟩,
  ⟨some 52, .load true [.int .i64, .int .i64, .slice] (.tmp 6), none⟩,
  ⟨some 53, .call false (.func 8) [.tmp 51, .tmp 52] [(true, [.int .i64, .int .i64, .int .i64, .int .i64]), (false, [.bool])] false, none⟩,
  ⟨some 50, .mv (.tmp 53), none⟩,
  ⟨some 54, .extract (.tmp 50) 0, none⟩,
  ⟨some 55, .extract (.tmp 50) 1, none⟩,
  ⟨some 13, .alloc [.int .i64 0, .int .i64 0, .int .i64 0, .int .i64 0], none⟩,
  ⟨none, .store 4 (.tmp 13) (.tmp 54), none⟩,
  ⟨some 14, .mv (.tmp 55), none⟩]
def o3_15 : List (AOper × Option Nat) := [(⟨some 56, .load true [.int .i64, .int .i64, .slice] (.tmp 5), none⟩, none),
  (⟨some 57, .call false (.func 7) [.tmp 56] [(true, [.int .i64, .int .i64, .slice])] true, none⟩, none),
  (⟨some 58, .load true [.int .i64, .int .i64, .slice] (.tmp 6), none⟩, none),
  (⟨some 59, .call false (.func 7) [.tmp 58] [(true, [.int .i64, .int .i64, .slice])] true, none⟩, none),
  (⟨some 60, .call false (.func 9) [.tmp 57, .tmp 59] [(false, [.slice])] true, none⟩, none),
  (⟨some 61, .load true [.int .i64, .int .i64, .slice] (.tmp 5), none⟩, none),
  (⟨some 62, .load true [.int .i64, .int .i64, .slice] (.tmp 6), none⟩, none),
  (⟨some 63, .call false (.func 10) [.tmp 61, .tmp 62] [(false, [.slice])] true, none⟩, none),
  (⟨some 15, .mv (.tmp 60), none⟩, none),
  (⟨some 16, .mv (.tmp 63), none⟩, none)]
def o3_18 : List AOper := [⟨some 64, .mv (.tmp 15), none⟩,
  ⟨some 65, .len (.tmp 64), none⟩,
  ⟨some 66, .mv (.tmp 16), none⟩,
  ⟨some 67, .len (.tmp 66), none⟩,
  ⟨some 68, .bin .neq (.tmp 65) (.tmp 67), none⟩]
def o3_21 : List AOper := [⟨some 10, .mv (.const (.bool false)), none⟩]
def o3_26 : List AOper := [⟨some 17, .mv (.const (.int .i64 0)), none⟩]
def o3_31 : List AOper := [⟨some 69, .mv (.tmp 17), none⟩,
  ⟨some 70, .mv (.tmp 15), none⟩,
  ⟨some 71, .len (.tmp 70), none⟩,
  ⟨some 72, .bin .lss (.tmp 69) (.tmp 71), none⟩]
def o3_38 : List (AOper × Option Nat) := [(⟨some 75, .mv (.tmp 15), none⟩, none),
  (⟨some 76, .mv (.tmp 17), none⟩, none),
  (⟨some 77, .indexAddr 1 (.tmp 75) (.tmp 76), none⟩, none),
  (⟨some 78, .load false [.int .i64] (.tmp 77), none⟩, none),
  (⟨some 79, .mv (.tmp 16), none⟩, none),
  (⟨some 80, .mv (.tmp 17), none⟩, none),
  (⟨some 81, .indexAddr 1 (.tmp 79) (.tmp 80), none⟩, none),
  (⟨some 82, .load false [.int .i64] (.tmp 81), none⟩, none),
  (⟨some 83, .bin .neq (.tmp 78) (.tmp 82), none⟩, none)]
def o3_41 : List AOper := [⟨some 10, .mv (.const (.bool false)), none⟩]
def o3_44 : List AOper := [⟨some 73, .mv (.tmp 17), none⟩,
  ⟨some 74, .bin .add (.tmp 73) (.const (.int .i64 1)), none⟩,
  ⟨some 17, .mv (.tmp 74), none⟩]
def c3_44 : ACode := .ops o3_44
def b3_28 : ACode := .post (.seq (.seq (.ops o3_31) (.cond (.tmp 72) (.skip) (.exit 0))) (.seq (.block 1 (.seq (.draw [] 0 o3_38 []) (.cond (.tmp 83) (.seq (.ops o3_41) (.ret)) (.skip)))) (.clear [0, 1, 7, 8, 9, 10, 18, 19, 20, 21, 22, 23, 24, 25, 26, 27, 28, 29, 30, 31, 32, 33, 34, 35, 36, 37, 38, 39, 40, 41, 42, 43, 44, 45, 46, 47, 48, 49, 50, 51, 52, 53, 54, 55, 56, 57, 58, 59, 60, 61, 62, 63, 64, 65, 66, 67, 68, 69, 70, 71, 72, 73, 74, 75, 76, 77, 78, 79, 80, 81, 82, 83, 84, 85, 86, 87, 88, 89, 90, 91, 92, 93, 94, 95, 96, 97, 98, 99, 100, 101, 102, 103, 104, 105, 106, 107, 108, 109, 110, 111, 112, 113, 114, 115, 116, 117, 118, 119, 120, 121, 122, 123, 124, 125, 126, 127, 128, 129, 130, 131, 132, 133, 134, 135, 136, 137, 138, 139, 140, 141, 142, 143, 144, 145, 146, 147, 148, 149, 150, 151, 152, 153, 154, 155, 156, 157, 158, 159, 160, 161, 162, 163, 164, 165, 166, 167, 168, 169, 170, 171, 172, 173, 174, 175, 176, 177, 178, 179, 180, 181, 182] c3_44))) [0, 1, 7, 8, 9, 10, 18, 19, 20, 21, 22, 23, 24, 25, 26, 27, 28, 29, 30, 31, 32, 33, 34, 35, 36, 37, 38, 39, 40, 41, 42, 43, 44, 45, 46, 47, 48, 49, 50, 51, 52, 53, 54, 55, 56, 57, 58, 59, 60, 61, 62, 63, 64, 65, 66, 67, 68, 69, 70, 71, 72, 73, 74, 75, 76, 77, 78, 79, 80, 81, 82, 83, 84, 85, 86, 87, 88, 89, 90, 91, 92, 93, 94, 95, 96, 97, 98, 99, 100, 101, 102, 103, 104, 105, 106, 107, 108, 109, 110, 111, 112, 113, 114, 115, 116, 117, 118, 119, 120, 121, 122, 123, 124, 125, 126, 127, 128, 129, 130, 131, 132, 133, 134, 135, 136, 137, 138, 139, 140, 141, 142, 143, 144, 145, 146, 147, 148, 149, 150, 151, 152, 153, 154, 155, 156, 157, 158, 159, 160, 161, 162, 163, 164, 165, 166, 167, 168, 169, 170, 171, 172, 173, 174, 175, 176, 177, 178, 179, 180, 181, 182]
def o3_46 : List (AOper × Option Nat) := [(⟨some 85, .load true [.int .i64, .int .i64, .slice] (.tmp 5), none⟩, none),
  (⟨some 86, .call false (.func 7) [.tmp 85] [(true, [.int .i64, .int .i64, .slice])] true, none⟩, none),
  (⟨some 87, .mv (.tmp 2), none⟩, none),
  (⟨some 88, .load true [.int .i64, .int .i64, .slice] (.tmp 6), none⟩, none),
  (⟨some 89, .call false (.func 7) [.tmp 88] [(true, [.int .i64, .int .i64, .slice])] true, none⟩, none),
  (⟨some 90, .call false (.func 11) [.tmp 86, .tmp 87, .tmp 89] [(true, [.int .i64, .int .i64, .slice]), (false, [.bool])] false, none⟩, none),
  (⟨some 84, .mv (.tmp 90), none⟩, none),
  (⟨some 91, .extract (.tmp 84) 0, none⟩, none),
  (⟨some 92, .extract (.tmp 84) 1, none⟩, none),
  (⟨some 18, .nilCheck (.tmp 18), none⟩, none),
  (⟨none, .store 3 (.tmp 18) (.tmp 91), none⟩, none),
  (⟨some 19, .mv (.tmp 92), none⟩, none)]
def f3_46 : List AOper := [⟨some 18, .alloc [.int .i64 0, .int .i64 0, .slice none 0 0], none⟩]
def o3_48 : List AOper := [⟨some 94, .load true [.int .i64, .int .i64, .slice] (.tmp 5), none⟩,
  ⟨some 95, .mv (.tmp 2), none⟩,
  ⟨some 96, .load true [.int .i64, .int .i64, .slice] (.tmp 6), none⟩,
  ⟨some 97, .call false (.func 12) [.tmp 94, .tmp 95, .tmp 96] [(true, [.int .i64, .int .i64, .slice]), (false, [.bool])] false, none⟩,
  ⟨some 93, .mv (.tmp 97), none⟩,
  ⟨some 98, .extract (.tmp 93) 0, none⟩,
  ⟨some 99, .extract (.tmp 93) 1, none⟩,
  ⟨some 20, .alloc [.int .i64 0, .int .i64 0, .slice none 0 0], none⟩,
  ⟨none, .store 3 (.tmp 20) (.tmp 98), none⟩,
  ⟨some 21, .mv (.tmp 99), none⟩]
def o3_50 : List (AOper × Option Nat) := [(⟨some 101, .load true [.int .i64, .int .i64, .slice] (.tmp 5), none⟩, none),
  (⟨some 102, .call false (.func 7) [.tmp 101] [(true, [.int .i64, .int .i64, .slice])] true, none⟩, none),
  (⟨some 103, .load true [.int .i64, .int .i64, .slice] (.tmp 6), none⟩, none),
  (⟨some 104, .call false (.func 7) [.tmp 103] [(true, [.int .i64, .int .i64, .slice])] true, none⟩, none),
  (⟨some 105, .mv (.tmp 3), none⟩, none),
  (⟨some 106, .call false (.func 13) [.tmp 102, .tmp 104, .tmp 105] [(true, [.int .i64, .int .i64, .slice]), (false, [.bool])] false, none⟩, none),
  (⟨some 100, .mv (.tmp 106), none⟩, none),
  (⟨some 107, .extract (.tmp 100) 0, none⟩, none),
  (⟨some 108, .extract (.tmp 100) 1, none⟩, none),
  (⟨some 22, .nilCheck (.tmp 22), none⟩, none),
  (⟨none, .store 3 (.tmp 22) (.tmp 107), none⟩, none),
  (⟨some 23, .mv (.tmp 108), none⟩, none)]
def f3_50 : List AOper := [⟨some 22, .alloc [.int .i64 0, .int .i64 0, .slice none 0 0], none⟩]
def o3_52 : List AOper := [⟨some 110, .load true [.int .i64, .int .i64, .slice] (.tmp 5), none⟩,
  ⟨some 111, .load true [.int .i64, .int .i64, .slice] (.tmp 6), none⟩,
  ⟨some 112, .mv (.tmp 3), none⟩,
  ⟨some 113, .call false (.func 14) [.tmp 110, .tmp 111, .tmp 112] [(true, [.int .i64, .int .i64, .slice]), (false, [.bool])] false, none⟩,
  ⟨some 109, .mv (.tmp 113), none⟩,
  ⟨some 114, .extract (.tmp 109) 0, none⟩,
  ⟨some 115, .extract (.tmp 109) 1, none⟩,
  ⟨some 24, .alloc [.int .i64 0, .int .i64 0, .slice none 0 0], none⟩,
  ⟨none, .store 3 (.tmp 24) (.tmp 114), none⟩,
  ⟨some 25, .mv (.tmp 115), none⟩]
def o3_54 : List (AOper × Option Nat) := [(⟨some 116, .fieldAddr 0 (.tmp 11), none⟩, none),
  (⟨some 117, .load false [.int .i64] (.tmp 116), none⟩, none),
  (⟨some 118, .fieldAddr 0 (.tmp 13), none⟩, none),
  (⟨some 119, .load false [.int .i64] (.tmp 118), none⟩, none),
  (⟨some 120, .bin .eql (.tmp 117) (.tmp 119), none⟩, none),
  (⟨some 121, .mv (.tmp 120), none⟩, none),
  (⟨some 122, .fieldAddr 1 (.tmp 11), some (121, true)⟩, none),
  (⟨some 123, .load false [.int .i64] (.tmp 122), some (121, true)⟩, none),
  (⟨some 124, .fieldAddr 1 (.tmp 13), some (121, true)⟩, none),
  (⟨some 125, .load false [.int .i64] (.tmp 124), some (121, true)⟩, none),
  (⟨some 126, .bin .eql (.tmp 123) (.tmp 125), some (121, true)⟩, none),
  (⟨some 127, .pick (.tmp 121) (.tmp 126) (.const (.bool false)), none⟩, none),
  (⟨some 128, .mv (.tmp 127), none⟩, none),
  (⟨some 129, .fieldAddr 2 (.tmp 11), some (128, true)⟩, none),
  (⟨some 130, .load false [.int .i64] (.tmp 129), some (128, true)⟩, none),
  (⟨some 131, .fieldAddr 2 (.tmp 13), some (128, true)⟩, none),
  (⟨some 132, .load false [.int .i64] (.tmp 131), some (128, true)⟩, none),
  (⟨some 133, .bin .eql (.tmp 130) (.tmp 132), some (128, true)⟩, none),
  (⟨some 134, .pick (.tmp 128) (.tmp 133) (.const (.bool false)), none⟩, none),
  (⟨some 135, .mv (.tmp 134), none⟩, none),
  (⟨some 136, .fieldAddr 3 (.tmp 11), some (135, true)⟩, none),
  (⟨some 137, .load false [.int .i64] (.tmp 136), some (135, true)⟩, none),
  (⟨some 138, .fieldAddr 3 (.tmp 13), some (135, true)⟩, none),
  (⟨some 139, .load false [.int .i64] (.tmp 138), some (135, true)⟩, none),
  (⟨some 140, .bin .eql (.tmp 137) (.tmp 139), some (135, true)⟩, none),
  (⟨some 141, .pick (.tmp 135) (.tmp 140) (.const (.bool false)), none⟩, none),
  (⟨some 142, .mv (.tmp 141), none⟩, none),
  (⟨some 143, .mv (.tmp 12), some (142, true)⟩, none),
  (⟨some 144, .mv (.tmp 14), some (142, true)⟩, none),
  (⟨some 145, .binB false (.tmp 143) (.tmp 144), some (142, true)⟩, none),
  (⟨some 146, .pick (.tmp 142) (.tmp 145) (.const (.bool false)), none⟩, none),
  (⟨some 147, .mv (.tmp 146), none⟩, none),
  (⟨some 148, .load true [.int .i64, .int .i64, .slice] (.tmp 18), some (147, true)⟩, none),
  (⟨some 149, .call false (.func 16) [.tmp 148] [(true, [.int .i64, .int .i64, .slice])] true, some (147, true)⟩, none),
  (⟨some 150, .load true [.int .i64, .int .i64, .slice] (.tmp 20), some (147, true)⟩, none),
  (⟨some 151, .call false (.func 15) [.tmp 149, .tmp 150] [(false, [.bool])] true, some (147, true)⟩, none),
  (⟨some 152, .pick (.tmp 147) (.tmp 151) (.const (.bool false)), none⟩, none),
  (⟨some 153, .mv (.tmp 152), none⟩, none),
  (⟨some 154, .mv (.tmp 19), some (153, true)⟩, none),
  (⟨some 155, .mv (.tmp 21), some (153, true)⟩, none),
  (⟨some 156, .binB false (.tmp 154) (.tmp 155), some (153, true)⟩, none),
  (⟨some 157, .pick (.tmp 153) (.tmp 156) (.const (.bool false)), none⟩, none),
  (⟨some 158, .mv (.tmp 157), none⟩, none),
  (⟨some 159, .load true [.int .i64, .int .i64, .slice] (.tmp 22), some (158, true)⟩, none),
  (⟨some 160, .call false (.func 16) [.tmp 159] [(true, [.int .i64, .int .i64, .slice])] true, some (158, true)⟩, none),
  (⟨some 161, .load true [.int .i64, .int .i64, .slice] (.tmp 24), some (158, true)⟩, none),
  (⟨some 162, .call false (.func 15) [.tmp 160, .tmp 161] [(false, [.bool])] true, some (158, true)⟩, none),
  (⟨some 163, .pick (.tmp 158) (.tmp 162) (.const (.bool false)), none⟩, none),
  (⟨some 164, .mv (.tmp 163), none⟩, none),
  (⟨some 165, .mv (.tmp 23), some (164, true)⟩, none),
  (⟨some 166, .mv (.tmp 25), some (164, true)⟩, none),
  (⟨some 167, .binB false (.tmp 165) (.tmp 166), some (164, true)⟩, none),
  (⟨some 168, .pick (.tmp 164) (.tmp 167) (.const (.bool false)), none⟩, none),
  (⟨some 169, .mv (.tmp 168), none⟩, none),
  (⟨some 170, .mv (.tmp 4), some (169, true)⟩, none),
  (⟨some 171, .build [.int .i64 0, .int .i64 0, .int .i64 0, .int .i64 0] [(3, 1, .tmp 170)], some (169, true)⟩, none),
  (⟨some 172, .mv (.tmp 3), some (169, true)⟩, none),
  (⟨some 173, .call true (.func 17) [.tmp 171, .tmp 172] [(false, [.int .i64])] true, some (169, true)⟩, none),
  (⟨some 174, .mv (.tmp 4), some (169, true)⟩, none),
  (⟨some 175, .build [.int .i64 0, .int .i64 0, .int .i64 0, .int .i64 0] [(3, 1, .tmp 174)], some (169, true)⟩, none),
  (⟨some 176, .mv (.tmp 3), some (169, true)⟩, none),
  (⟨some 177, .call true (.func 18) [.tmp 175, .tmp 176] [(false, [.int .i64])] true, some (169, true)⟩, none),
  (⟨some 178, .bin .eql (.tmp 173) (.tmp 177), some (169, true)⟩, none),
  (⟨some 179, .pick (.tmp 169) (.tmp 178) (.const (.bool false)), none⟩, none),
  (⟨some 180, .mv (.tmp 179), none⟩, none),
  (⟨some 181, .call true (.func 5) [] [(false, [.bool])] true, some (180, true)⟩, none),
  (⟨some 182, .pick (.tmp 180) (.tmp 181) (.const (.bool false)), none⟩, none),
  (⟨some 10, .mv (.tmp 182), none⟩, none)]
def c3_51 : ACode := .seq (.ops o3_52) (.seq (.draw [] 0 o3_54 [(34, 33), (45, 44)]) (.ret))
def c3_45 : ACode := .seq (.draw f3_46 0 o3_46 [(3, 1), (9, 1), (9, 4), (9, 5)]) (.seq (.ops o3_48) (.seq (.draw f3_50 0 o3_50 [(2, 1), (9, 1), (9, 3), (9, 5)]) (.clear [0, 1, 2, 7, 8, 9, 10, 15, 16, 17, 24, 25, 26, 27, 28, 29, 30, 31, 32, 33, 34, 35, 36, 37, 38, 39, 40, 41, 42, 43, 44, 45, 46, 47, 48, 49, 50, 51, 52, 53, 54, 55, 56, 57, 58, 59, 60, 61, 62, 63, 64, 65, 66, 67, 68, 69, 70, 71, 72, 73, 74, 75, 76, 77, 78, 79, 80, 81, 82, 83, 84, 85, 86, 87, 88, 89, 90, 91, 92, 93, 94, 95, 96, 97, 98, 99, 100, 101, 102, 103, 104, 105, 106, 107, 108, 109, 110, 111, 112, 113, 114, 115, 116, 117, 118, 119, 120, 121, 122, 123, 124, 125, 126, 127, 128, 129, 130, 131, 132, 133, 134, 135, 136, 137, 138, 139, 140, 141, 142, 143, 144, 145, 146, 147, 148, 149, 150, 151, 152, 153, 154, 155, 156, 157, 158, 159, 160, 161, 162, 163, 164, 165, 166, 167, 168, 169, 170, 171, 172, 173, 174, 175, 176, 177, 178, 179, 180, 181, 182] c3_51)))
def c3_14 : ACode := .seq (.draw [] 0 o3_15 [(2, 1), (5, 1), (5, 3), (5, 4), (6, 1), (6, 3), (6, 4)]) (.seq (.seq (.ops o3_18) (.cond (.tmp 68) (.seq (.ops o3_21) (.ret)) (.skip))) (.seq (.seq (.ops o3_26) (.block 0 (.clear [0, 1, 7, 8, 9, 10, 18, 19, 20, 21, 22, 23, 24, 25, 26, 27, 28, 29, 30, 31, 32, 33, 34, 35, 36, 37, 38, 39, 40, 41, 42, 43, 44, 45, 46, 47, 48, 49, 50, 51, 52, 53, 54, 55, 56, 57, 58, 59, 60, 61, 62, 63, 64, 65, 66, 67, 68, 69, 70, 71, 72, 73, 74, 75, 76, 77, 78, 79, 80, 81, 82, 83, 84, 85, 86, 87, 88, 89, 90, 91, 92, 93, 94, 95, 96, 97, 98, 99, 100, 101, 102, 103, 104, 105, 106, 107, 108, 109, 110, 111, 112, 113, 114, 115, 116, 117, 118, 119, 120, 121, 122, 123, 124, 125, 126, 127, 128, 129, 130, 131, 132, 133, 134, 135, 136, 137, 138, 139, 140, 141, 142, 143, 144, 145, 146, 147, 148, 149, 150, 151, 152, 153, 154, 155, 156, 157, 158, 159, 160, 161, 162, 163, 164, 165, 166, 167, 168, 169, 170, 171, 172, 173, 174, 175, 176, 177, 178, 179, 180, 181, 182] (.loop b3_28)))) (.clear [0, 1, 7, 8, 9, 10, 15, 16, 17, 18, 19, 20, 21, 22, 23, 24, 25, 26, 27, 28, 29, 30, 31, 32, 33, 34, 35, 36, 37, 38, 39, 40, 41, 42, 43, 44, 45, 46, 47, 48, 49, 50, 51, 52, 53, 54, 55, 56, 57, 58, 59, 60, 61, 62, 63, 64, 65, 66, 67, 68, 69, 70, 71, 72, 73, 74, 75, 76, 77, 78, 79, 80, 81, 82, 83, 84, 85, 86, 87, 88, 89, 90, 91, 92, 93, 94, 95, 96, 97, 98, 99, 100, 101, 102, 103, 104, 105, 106, 107, 108, 109, 110, 111, 112, 113, 114, 115, 116, 117, 118, 119, 120, 121, 122, 123, 124, 125, 126, 127, 128, 129, 130, 131, 132, 133, 134, 135, 136, 137, 138, 139, 140, 141, 142, 143, 144, 145, 146, 147, 148, 149, 150, 151, 152, 153, 154, 155, 156, 157, 158, 159, 160, 161, 162, 163, 164, 165, 166, 167, 168, 169, 170, 171, 172, 173, 174, 175, 176, 177, 178, 179, 180, 181, 182] c3_45)))
def c3_0 : ACode := .seq (.ops o3_1) (.seq (.seq (.ops o3_4) (.cond (.tmp 40) (.seq (.ops o3_7) (.ret)) (.skip))) (.seq (.draw f3_11 0 o3_11 [(2, 1), (8, 1), (8, 3), (8, 4)]) (.seq (.ops o3_13) (.clear [0, 1, 7, 8, 9, 10, 15, 16, 17, 18, 19, 20, 21, 22, 23, 24, 25, 26, 27, 28, 29, 30, 31, 32, 33, 34, 35, 36, 37, 38, 39, 40, 41, 42, 43, 44, 45, 46, 47, 48, 49, 50, 51, 52, 53, 54, 55, 56, 57, 58, 59, 60, 61, 62, 63, 64, 65, 66, 67, 68, 69, 70, 71, 72, 73, 74, 75, 76, 77, 78, 79, 80, 81, 82, 83, 84, 85, 86, 87, 88, 89, 90, 91, 92, 93, 94, 95, 96, 97, 98, 99, 100, 101, 102, 103, 104, 105, 106, 107, 108, 109, 110, 111, 112, 113, 114, 115, 116, 117, 118, 119, 120, 121, 122, 123, 124, 125, 126, 127, 128, 129, 130, 131, 132, 133, 134, 135, 136, 137, 138, 139, 140, 141, 142, 143, 144, 145, 146, 147, 148, 149, 150, 151, 152, 153, 154, 155, 156, 157, 158, 159, 160, 161, 162, 163, 164, 165, 166, 167, 168, 169, 170, 171, 172, 173, 174, 175, 176, 177, 178, 179, 180, 181, 182] c3_14))))
def a3 : AFun := ⟨183, [.tmp 10], c3_0⟩
theorem ok3 : OkFun Try.prog 3 a3 := ⟨Try.f3, Try.f3.body.getD .skip, Try.func3, by kernel_rfl, by kernel_rfl, by kernel_rfl, by kernel_rfl, by kernel_rfl⟩
/-! #### skylightlaw49.DiffThree -/
def o4_1 : List AOper := [⟨some 4, .box (.tmp 0), none⟩,
  ⟨some 5, .box (.tmp 1), none⟩,
  ⟨some 6, .box (.tmp 2), none⟩,
  ⟨some 8, .mv (.const (.bool false)), none⟩]
def o4_4 : List AOper := [⟨some 29, .fieldAddr 2 (.tmp 4), none⟩,
  ⟨some 30, .load false [.slice] (.tmp 29), none⟩,
  ⟨some 31, .len (.tmp 30), none⟩,
  ⟨some 32, .bin .gtr (.tmp 31) (.const (.int .i64 30)), none⟩,
  ⟨some 33, .mv (.tmp 32), none⟩,
  ⟨some 34, .load true [.int .i64, .int .i64, .slice] (.tmp 4), some (33, false)⟩,
  ⟨some 35, .load true [.int .i64, .int .i64, .slice] (.tmp 5), some (33, false)⟩,
  ⟨some 36, .call false (.func 19) [.tmp 34, .tmp 35] [(false, [.bool])] true, some (33, false)⟩,
  ⟨some 37, .un .not (.tmp 36), some (33, false)⟩,
  ⟨some 38, .pick (.tmp 33) (.const (.bool true)) (.tmp 37), none⟩,
  ⟨some 39, .mv (.tmp 38), none⟩,
  ⟨some 40, .load true [.int .i64, .int .i64, .slice] (.tmp 5), some (39, false)⟩,
  ⟨some 41, .load true [.int .i64, .int .i64, .slice] (.tmp 6), some (39, false)⟩,
  ⟨some 42, .call false (.func 19) [.tmp 40, .tmp 41] [(false, [.bool])] true, some (39, false)⟩,
  ⟨some 43, .un .not (.tmp 42), some (39, false)⟩,
  ⟨some 44, .pick (.tmp 39) (.const (.bool true)) (.tmp 43), none⟩]
def o4_7 : List AOper := [⟨some 45, .call true (.func 5) [] [(false, [.bool])] true, none⟩,
  ⟨some 8, .mv (.tmp 45), none⟩]
def o4_11 : List (AOper × Option Nat) := [(⟨some 47, .load true [.int .i64, .int .i64, .slice] (.tmp 4), none⟩, none),
  (⟨some 48, .call false (.func 7) [.tmp 47] [(true, [.int .i64, .int .i64, .slice])] true, none⟩, none),
  (⟨some 49, .load true [.int .i64, .int .i64, .slice] (.tmp 5), none⟩, none),
  (⟨some 50, .call false (.func 7) [.tmp 49] [(true, [.int .i64, .int .i64, .slice])] true, none⟩, none),
  (⟨some 51, .call false (.func 6) [.tmp 48, .tmp 50] [(true, [.int .i64, .int .i64, .int .i64, .int .i64]), (false, [.bool])] false, none⟩, none),
  (⟨some 46, .mv (.tmp 51), none⟩, none),
  (⟨some 52, .extract (.tmp 46) 0, none⟩, none),
  (⟨some 53, .extract (.tmp 46) 1, none⟩, none),
  (⟨some 9, .nilCheck (.tmp 9), none⟩, none),
  (⟨none, .store 4 (.tmp 9) (.tmp 52), none⟩, none),
  (⟨some 10, .mv (.tmp 53), none⟩, none)]
def f4_11 : List AOper := [⟨some 9, .alloc [.int .i64 0, .int .i64 0, .int .i64 0, .int .i64 0], none⟩]
def o4_13 : List (AOper × Option Nat) := [(⟨some 55, .load true [.int .i64, .int .i64, .slice] (.tmp 5), none⟩, none),
  (⟨some 56, .call false (.func 7) [.tmp 55] [(true, [.int .i64, .int .i64, .slice])] true, none⟩, none),
  (⟨some 57, .load true [.int .i64, .int .i64, .slice] (.tmp 4), none⟩, none),
  (⟨some 58, .call false (.func 7) [.tmp 57] [(true, [.int .i64, .int .i64, .slice])] true, none⟩, none),
  (⟨some 59, .call false (.func 6) [.tmp 56, .tmp 58] [(true, [.int .i64, .int .i64, .int .i64, .int .i64]), (false, [.bool])] false, none⟩, none),
  (⟨some 54, .mv (.tmp 59), none⟩, none),
  (⟨some 60, .extract (.tmp 54) 0, none⟩, none),
  (⟨some 61, .extract (.tmp 54) 1, none⟩, none),
  (⟨some 11, .nilCheck (.tmp 11), none⟩, none),
  (⟨none, .store 4 (.tmp 11) (.tmp 60), none⟩, none),
  (⟨some 12, .mv (.tmp 61), none⟩, none)]
def f4_13 : List AOper := [⟨some 11, .alloc [.int .i64 0, .int .i64 0, .int .i64 0, .int .i64 0], none⟩]
def o4_15 : List (AOper × Option Nat) := [(⟨some 63, .load true [.int .i64, .int .i64, .slice] (.tmp 5), none⟩, none),
  (⟨some 64, .call false (.func 7) [.tmp 63] [(true, [.int .i64, .int .i64, .slice])] true, none⟩, none),
  (⟨some 65, .load true [.int .i64, .int .i64, .slice] (.tmp 6), none⟩, none),
  (⟨some 66, .call false (.func 7) [.tmp 65] [(true, [.int .i64, .int .i64, .slice])] true, none⟩, none),
  (⟨some 67, .call false (.func 6) [.tmp 64, .tmp 66] [(true, [.int .i64, .int .i64, .int .i64, .int .i64]), (false, [.bool])] false, none⟩, none),
  (⟨some 62, .mv (.tmp 67), none⟩, none),
  (⟨some 68, .extract (.tmp 62) 0, none⟩, none),
  (⟨some 69, .extract (.tmp 62) 1, none⟩, none),
  (⟨some 13, .nilCheck (.tmp 13), none⟩, none),
  (⟨none, .store 4 (.tmp 13) (.tmp 68), none⟩, none),
  (⟨some 14, .mv (.tmp 69), none⟩, none)]
def f4_15 : List AOper := [⟨some 13, .alloc [.int .i64 0, .int .i64 0, .int .i64 0, .int .i64 0], none⟩]
def o4_17 : List (AOper × Option Nat) := [(⟨some 71, .load true [.int .i64, .int .i64, .slice] (.tmp 4), none⟩, none),
  (⟨some 72, .call false (.func 7) [.tmp 71] [(true, [.int .i64, .int .i64, .slice])] true, none⟩, none),
  (⟨some 73, .load true [.int .i64, .int .i64, .slice] (.tmp 6), none⟩, none),
  (⟨some 74, .call false (.func 7) [.tmp 73] [(true, [.int .i64, .int .i64, .slice])] true, none⟩, none),
  (⟨some 75, .call false (.func 6) [.tmp 72, .tmp 74] [(true, [.int .i64, .int .i64, .int .i64, .int .i64]), (false, [.bool])] false, none⟩, none),
  (⟨some 70, .mv (.tmp 75), none⟩, none),
  (⟨some 76, .extract (.tmp 70) 0, none⟩, none),
  (⟨some 77, .extract (.tmp 70) 1, none⟩, none),
  (⟨some 15, .nilCheck (.tmp 15), none⟩, none),
  (⟨none, .store 4 (.tmp 15) (.tmp 76), none⟩, none),
  (⟨some 16, .mv (.tmp 77), none⟩, none)]
def f4_17 : List AOper := [⟨some 15, .alloc [.int .i64 0, .int .i64 0, .int .i64 0, .int .i64 0], none⟩]
def o4_20 : List (AOper × Option Nat) := [(⟨some 78, .mv (.tmp 10), none⟩, none),
  (⟨some 79, .un .not (.tmp 78), none⟩, none),
  (⟨some 80, .mv (.tmp 79), none⟩, none),
  (⟨some 81, .mv (.tmp 12), some (80, false)⟩, none),
  (⟨some 82, .un .not (.tmp 81), some (80, false)⟩, none),
  (⟨some 83, .pick (.tmp 80) (.const (.bool true)) (.tmp 82), none⟩, none),
  (⟨some 84, .mv (.tmp 83), none⟩, none),
  (⟨some 85, .mv (.tmp 14), some (84, false)⟩, none),
  (⟨some 86, .un .not (.tmp 85), some (84, false)⟩, none),
  (⟨some 87, .pick (.tmp 84) (.const (.bool true)) (.tmp 86), none⟩, none),
  (⟨some 88, .mv (.tmp 87), none⟩, none),
  (⟨some 89, .mv (.tmp 16), some (88, false)⟩, none),
  (⟨some 90, .un .not (.tmp 89), some (88, false)⟩, none),
  (⟨some 91, .pick (.tmp 88) (.const (.bool true)) (.tmp 90), none⟩, none),
  (⟨some 92, .mv (.tmp 91), none⟩, none),
  (⟨some 93, .load true [.int .i64, .int .i64, .int .i64, .int .i64] (.tmp 9), some (92, false)⟩, none),
  (⟨some 94, .load true [.int .i64, .int .i64, .int .i64, .int .i64] (.tmp 11), some (92, false)⟩, none),
  (⟨some 95, .eqAgg [.int .i64, .int .i64, .int .i64, .int .i64] true (.tmp 93) (.tmp 94), some (92, false)⟩, none),
  (⟨some 96, .pick (.tmp 92) (.const (.bool true)) (.tmp 95), none⟩, none),
  (⟨some 97, .mv (.tmp 96), none⟩, none),
  (⟨some 98, .load true [.int .i64, .int .i64, .int .i64, .int .i64] (.tmp 9), some (97, false)⟩, none),
  (⟨some 99, .build [.int .i64 0, .int .i64 0, .int .i64 0, .int .i64 0] [], some (97, false)⟩, none),
  (⟨some 100, .eqAgg [.int .i64, .int .i64, .int .i64, .int .i64] false (.tmp 98) (.tmp 99), some (97, false)⟩, none),
  (⟨some 101, .load true [.int .i64, .int .i64, .slice] (.tmp 4), some (97, false)⟩, none),
  (⟨some 102, .load true [.int .i64, .int .i64, .slice] (.tmp 5), some (97, false)⟩, none),
  (⟨some 103, .call false (.func 15) [.tmp 101, .tmp 102] [(false, [.bool])] true, some (97, false)⟩, none),
  (⟨some 104, .binB true (.tmp 100) (.tmp 103), some (97, false)⟩, none),
  (⟨some 105, .pick (.tmp 97) (.const (.bool true)) (.tmp 104), none⟩, none),
  (⟨some 106, .mv (.tmp 105), none⟩, none),
  (⟨some 107, .fieldAddr 2 (.tmp 15), some (106, false)⟩, none),
  (⟨some 108, .load false [.int .i64] (.tmp 107), some (106, false)⟩, none),
  (⟨some 109, .fieldAddr 2 (.tmp 9), some (106, false)⟩, none),
  (⟨some 110, .load false [.int .i64] (.tmp 109), some (106, false)⟩, none),
  (⟨some 111, .fieldAddr 2 (.tmp 13), some (106, false)⟩, none),
  (⟨some 112, .load false [.int .i64] (.tmp 111), some (106, false)⟩, none),
  (⟨some 113, .bin .add (.tmp 110) (.tmp 112), some (106, false)⟩, none),
  (⟨some 114, .bin .gtr (.tmp 108) (.tmp 113), some (106, false)⟩, none),
  (⟨some 115, .pick (.tmp 106) (.const (.bool true)) (.tmp 114), none⟩, none),
  (⟨some 116, .mv (.tmp 115), none⟩, none),
  (⟨some 117, .fieldAddr 1 (.tmp 15), some (116, false)⟩, none),
  (⟨some 118, .load false [.int .i64] (.tmp 117), some (116, false)⟩, none),
  (⟨some 119, .fieldAddr 1 (.tmp 9), some (116, false)⟩, none),
  (⟨some 120, .load false [.int .i64] (.tmp 119), some (116, false)⟩, none),
  (⟨some 121, .fieldAddr 1 (.tmp 13), some (116, false)⟩, none),
  (⟨some 122, .load false [.int .i64] (.tmp 121), some (116, false)⟩, none),
  (⟨some 123, .bin .add (.tmp 120) (.tmp 122), some (116, false)⟩, none),
  (⟨some 124, .bin .gtr (.tmp 118) (.tmp 123), some (116, false)⟩, none),
  (⟨some 125, .pick (.tmp 116) (.const (.bool true)) (.tmp 124), none⟩, none),
  (⟨some 126, .mv (.tmp 125), none⟩, none),
  (⟨some 127, .fieldAddr 0 (.tmp 15), some (126, false)⟩, none),
  (⟨some 128, .load false [.int .i64] (.tmp 127), some (126, false)⟩, none),
  (⟨some 129, .fieldAddr 0 (.tmp 9), some (126, false)⟩, none),
  (⟨some 130, .load false [.int .i64] (.tmp 129), some (126, false)⟩, none),
  (⟨some 131, .fieldAddr 0 (.tmp 13), some (126, false)⟩, none),
  (⟨some 132, .load false [.int .i64] (.tmp 131), some (126, false)⟩, none),
  (⟨some 133, .bin .add (.tmp 130) (.tmp 132), some (126, false)⟩, none),
  (⟨some 134, .bin .gtr (.tmp 128) (.tmp 133), some (126, false)⟩, none),
  (⟨some 135, .pick (.tmp 126) (.const (.bool true)) (.tmp 134), none⟩, none)]
def o4_23 : List AOper := [⟨some 8, .mv (.const (.bool false)), none⟩]
def c4_21 : ACode := .cond (.tmp 135) (.seq (.ops o4_23) (.ret)) (.skip)
def o4_27 : List (AOper × Option Nat) := [(⟨some 137, .load true [.int .i64, .int .i64, .slice] (.tmp 4), none⟩, none),
  (⟨some 138, .call false (.func 7) [.tmp 137] [(true, [.int .i64, .int .i64, .slice])] true, none⟩, none),
  (⟨some 139, .load true [.int .i64, .int .i64, .slice] (.tmp 4), none⟩, none),
  (⟨some 140, .call false (.func 7) [.tmp 139] [(true, [.int .i64, .int .i64, .slice])] true, none⟩, none),
  (⟨some 141, .load true [.int .i64, .int .i64, .slice] (.tmp 5), none⟩, none),
  (⟨some 142, .call false (.func 7) [.tmp 141] [(true, [.int .i64, .int .i64, .slice])] true, none⟩, none),
  (⟨some 143, .call false (.func 9) [.tmp 140, .tmp 142] [(false, [.slice])] true, none⟩, none),
  (⟨some 144, .load true [.int .i64, .int .i64, .slice] (.tmp 5), none⟩, none),
  (⟨some 145, .call false (.func 7) [.tmp 144] [(true, [.int .i64, .int .i64, .slice])] true, none⟩, none),
  (⟨some 146, .call false (.func 11) [.tmp 138, .tmp 143, .tmp 145] [(true, [.int .i64, .int .i64, .slice]), (false, [.bool])] false, none⟩, none),
  (⟨some 136, .mv (.tmp 146), none⟩, none),
  (⟨some 147, .extract (.tmp 136) 0, none⟩, none),
  (⟨some 148, .extract (.tmp 136) 1, none⟩, none),
  (⟨some 17, .nilCheck (.tmp 17), none⟩, none),
  (⟨none, .store 3 (.tmp 17) (.tmp 147), none⟩, none),
  (⟨some 18, .mv (.tmp 148), none⟩, none)]
def f4_27 : List AOper := [⟨some 17, .alloc [.int .i64 0, .int .i64 0, .slice none 0 0], none⟩]
def o4_29 : List (AOper × Option Nat) := [(⟨some 150, .load true [.int .i64, .int .i64, .slice] (.tmp 4), none⟩, none),
  (⟨some 151, .call false (.func 7) [.tmp 150] [(true, [.int .i64, .int .i64, .slice])] true, none⟩, none),
  (⟨some 152, .load true [.int .i64, .int .i64, .slice] (.tmp 5), none⟩, none),
  (⟨some 153, .call false (.func 7) [.tmp 152] [(true, [.int .i64, .int .i64, .slice])] true, none⟩, none),
  (⟨some 154, .call false (.func 11) [.tmp 151, .const (.slice none 0 0), .tmp 153] [(true, [.int .i64, .int .i64, .slice]), (false, [.bool])] false, none⟩, none),
  (⟨some 149, .mv (.tmp 154), none⟩, none),
  (⟨some 155, .extract (.tmp 149) 0, none⟩, none),
  (⟨some 156, .extract (.tmp 149) 1, none⟩, none),
  (⟨some 19, .nilCheck (.tmp 19), none⟩, none),
  (⟨none, .store 3 (.tmp 19) (.tmp 155), none⟩, none),
  (⟨some 20, .mv (.tmp 156), none⟩, none)]
def f4_29 : List AOper := [⟨some 19, .alloc [.int .i64 0, .int .i64 0, .slice none 0 0], none⟩]
def o4_31 : List (AOper × Option Nat) := [(⟨some 158, .load true [.int .i64, .int .i64, .slice] (.tmp 4), none⟩, none),
  (⟨some 159, .call false (.func 7) [.tmp 158] [(true, [.int .i64, .int .i64, .slice])] true, none⟩, none),
  (⟨some 160, .load true [.int .i64, .int .i64, .slice] (.tmp 5), none⟩, none),
  (⟨some 161, .call false (.func 7) [.tmp 160] [(true, [.int .i64, .int .i64, .slice])] true, none⟩, none),
  (⟨some 162, .mv (.tmp 3), none⟩, none),
  (⟨some 163, .conv .i64 (.tmp 162), none⟩, none),
  (⟨some 164, .bin .rem (.tmp 163) (.const (.int .i64 1001)), none⟩, none),
  (⟨some 165, .call false (.func 13) [.tmp 159, .tmp 161, .tmp 164] [(true, [.int .i64, .int .i64, .slice]), (false, [.bool])] false, none⟩, none),
  (⟨some 157, .mv (.tmp 165), none⟩, none),
  (⟨some 166, .extract (.tmp 157) 0, none⟩, none),
  (⟨some 167, .extract (.tmp 157) 1, none⟩, none),
  (⟨some 21, .nilCheck (.tmp 21), none⟩, none),
  (⟨none, .store 3 (.tmp 21) (.tmp 166), none⟩, none),
  (⟨some 22, .mv (.tmp 167), none⟩, none)]
def f4_31 : List AOper := [⟨some 21, .alloc [.int .i64 0, .int .i64 0, .slice none 0 0], none⟩]
def o4_33 : List (AOper × Option Nat) := [(⟨some 169, .load true [.int .i64, .int .i64, .slice] (.tmp 4), none⟩, none),
  (⟨some 170, .call false (.func 7) [.tmp 169] [(true, [.int .i64, .int .i64, .slice])] true, none⟩, none),
  (⟨some 171, .load true [.int .i64, .int .i64, .slice] (.tmp 21), none⟩, none),
  (⟨some 172, .call false (.func 6) [.tmp 170, .tmp 171] [(true, [.int .i64, .int .i64, .int .i64, .int .i64]), (false, [.bool])] false, none⟩, none),
  (⟨some 168, .mv (.tmp 172), none⟩, none),
  (⟨some 173, .extract (.tmp 168) 0, none⟩, none),
  (⟨some 174, .extract (.tmp 168) 1, none⟩, none),
  (⟨some 23, .nilCheck (.tmp 23), none⟩, none),
  (⟨none, .store 4 (.tmp 23) (.tmp 173), none⟩, none),
  (⟨some 24, .mv (.tmp 174), none⟩, none)]
def f4_33 : List AOper := [⟨some 23, .alloc [.int .i64 0, .int .i64 0, .int .i64 0, .int .i64 0], none⟩]
def o4_35 : List (AOper × Option Nat) := [(⟨some 176, .load true [.int .i64, .int .i64, .slice] (.tmp 4), none⟩, none),
  (⟨some 177, .call false (.func 7) [.tmp 176] [(true, [.int .i64, .int .i64, .slice])] true, none⟩, none),
  (⟨some 178, .load true [.int .i64, .int .i64, .slice] (.tmp 5), none⟩, none),
  (⟨some 179, .call false (.func 7) [.tmp 178] [(true, [.int .i64, .int .i64, .slice])] true, none⟩, none),
  (⟨some 180, .call false (.func 13) [.tmp 177, .tmp 179, .const (.int .i64 0)] [(true, [.int .i64, .int .i64, .slice]), (false, [.bool])] false, none⟩, none),
  (⟨some 175, .mv (.tmp 180), none⟩, none),
  (⟨some 181, .extract (.tmp 175) 0, none⟩, none),
  (⟨some 182, .extract (.tmp 175) 1, none⟩, none),
  (⟨some 25, .nilCheck (.tmp 25), none⟩, none),
  (⟨none, .store 3 (.tmp 25) (.tmp 181), none⟩, none),
  (⟨some 26, .mv (.tmp 182), none⟩, none)]
def f4_35 : List AOper := [⟨some 25, .alloc [.int .i64 0, .int .i64 0, .slice none 0 0], none⟩]
def o4_37 : List (AOper × Option Nat) := [(⟨some 184, .load true [.int .i64, .int .i64, .slice] (.tmp 4), none⟩, none),
  (⟨some 185, .call false (.func 7) [.tmp 184] [(true, [.int .i64, .int .i64, .slice])] true, none⟩, none),
  (⟨some 186, .load true [.int .i64, .int .i64, .slice] (.tmp 5), none⟩, none),
  (⟨some 187, .call false (.func 7) [.tmp 186] [(true, [.int .i64, .int .i64, .slice])] true, none⟩, none),
  (⟨some 188, .call false (.func 13) [.tmp 185, .tmp 187, .const (.int .i64 1000)] [(true, [.int .i64, .int .i64, .slice]), (false, [.bool])] false, none⟩, none),
  (⟨some 183, .mv (.tmp 188), none⟩, none),
  (⟨some 189, .extract (.tmp 183) 0, none⟩, none),
  (⟨some 190, .extract (.tmp 183) 1, none⟩, none),
  (⟨some 27, .nilCheck (.tmp 27), none⟩, none),
  (⟨none, .store 3 (.tmp 27) (.tmp 189), none⟩, none),
  (⟨some 28, .mv (.tmp 190), none⟩, none)]
def f4_37 : List AOper := [⟨some 27, .alloc [.int .i64 0, .int .i64 0, .slice none 0 0], none⟩]
def o4_39 : List (AOper × Option Nat) := [(⟨some 191, .mv (.tmp 18), none⟩, none),
  (⟨some 192, .mv (.tmp 191), none⟩, none),
  (⟨some 193, .mv (.tmp 22), some (192, true)⟩, none),
  (⟨some 194, .pick (.tmp 192) (.tmp 193) (.const (.bool false)), none⟩, none),
  (⟨some 195, .mv (.tmp 194), none⟩, none),
  (⟨some 196, .load true [.int .i64, .int .i64, .slice] (.tmp 17), some (195, true)⟩, none),
  (⟨some 197, .call false (.func 16) [.tmp 196] [(true, [.int .i64, .int .i64, .slice])] true, some (195, true)⟩, none),
  (⟨some 198, .load true [.int .i64, .int .i64, .slice] (.tmp 5), some (195, true)⟩, none),
  (⟨some 199, .call false (.func 15) [.tmp 197, .tmp 198] [(false, [.bool])] true, some (195, true)⟩, none),
  (⟨some 200, .pick (.tmp 195) (.tmp 199) (.const (.bool false)), none⟩, none),
  (⟨some 201, .mv (.tmp 200), none⟩, none),
  (⟨some 202, .load true [.int .i64, .int .i64, .slice] (.tmp 19), some (201, true)⟩, none),
  (⟨some 203, .call false (.func 16) [.tmp 202] [(true, [.int .i64, .int .i64, .slice])] true, some (201, true)⟩, none),
  (⟨some 204, .load true [.int .i64, .int .i64, .slice] (.tmp 4), some (201, true)⟩, none),
  (⟨some 205, .call false (.func 15) [.tmp 203, .tmp 204] [(false, [.bool])] true, some (201, true)⟩, none),
  (⟨some 206, .pick (.tmp 201) (.tmp 205) (.const (.bool false)), none⟩, none),
  (⟨some 207, .mv (.tmp 206), none⟩, none),
  (⟨some 208, .load true [.int .i64, .int .i64, .slice] (.tmp 25), some (207, true)⟩, none),
  (⟨some 209, .call false (.func 16) [.tmp 208] [(true, [.int .i64, .int .i64, .slice])] true, some (207, true)⟩, none),
  (⟨some 210, .load true [.int .i64, .int .i64, .slice] (.tmp 4), some (207, true)⟩, none),
  (⟨some 211, .call false (.func 15) [.tmp 209, .tmp 210] [(false, [.bool])] true, some (207, true)⟩, none),
  (⟨some 212, .pick (.tmp 207) (.tmp 211) (.const (.bool false)), none⟩, none),
  (⟨some 213, .mv (.tmp 212), none⟩, none),
  (⟨some 214, .load true [.int .i64, .int .i64, .slice] (.tmp 27), some (213, true)⟩, none),
  (⟨some 215, .call false (.func 16) [.tmp 214] [(true, [.int .i64, .int .i64, .slice])] true, some (213, true)⟩, none),
  (⟨some 216, .load true [.int .i64, .int .i64, .slice] (.tmp 5), some (213, true)⟩, none),
  (⟨some 217, .call false (.func 15) [.tmp 215, .tmp 216] [(false, [.bool])] true, some (213, true)⟩, none),
  (⟨some 218, .pick (.tmp 213) (.tmp 217) (.const (.bool false)), none⟩, none),
  (⟨some 219, .mv (.tmp 218), none⟩, none),
  (⟨some 220, .fieldAddr 1 (.tmp 23), some (219, true)⟩, none),
  (⟨some 221, .load false [.int .i64] (.tmp 220), some (219, true)⟩, none),
  (⟨some 222, .fieldAddr 1 (.tmp 9), some (219, true)⟩, none),
  (⟨some 223, .load false [.int .i64] (.tmp 222), some (219, true)⟩, none),
  (⟨some 224, .bin .leq (.tmp 221) (.tmp 223), some (219, true)⟩, none),
  (⟨some 225, .pick (.tmp 219) (.tmp 224) (.const (.bool false)), none⟩, none),
  (⟨some 226, .mv (.tmp 225), none⟩, none),
  (⟨some 227, .fieldAddr 1 (.tmp 9), some (226, true)⟩, none),
  (⟨some 228, .load false [.int .i64] (.tmp 227), some (226, true)⟩, none),
  (⟨some 229, .fieldAddr 1 (.tmp 9), some (226, true)⟩, none),
  (⟨some 230, .load false [.int .i64] (.tmp 229), some (226, true)⟩, none),
  (⟨some 231, .bin .mul (.tmp 228) (.tmp 230), some (226, true)⟩, none),
  (⟨some 232, .fieldAddr 3 (.tmp 9), some (226, true)⟩, none),
  (⟨some 233, .load false [.int .i64] (.tmp 232), some (226, true)⟩, none),
  (⟨some 234, .bin .leq (.tmp 231) (.tmp 233), some (226, true)⟩, none),
  (⟨some 235, .pick (.tmp 226) (.tmp 234) (.const (.bool false)), none⟩, none),
  (⟨some 236, .mv (.tmp 235), none⟩, none),
  (⟨some 237, .fieldAddr 3 (.tmp 9), some (236, true)⟩, none),
  (⟨some 238, .load false [.int .i64] (.tmp 237), some (236, true)⟩, none),
  (⟨some 239, .fieldAddr 1 (.tmp 9), some (236, true)⟩, none),
  (⟨some 240, .load false [.int .i64] (.tmp 239), some (236, true)⟩, none),
  (⟨some 241, .fieldAddr 2 (.tmp 9), some (236, true)⟩, none),
  (⟨some 242, .load false [.int .i64] (.tmp 241), some (236, true)⟩, none),
  (⟨some 243, .bin .mul (.tmp 240) (.tmp 242), some (236, true)⟩, none),
  (⟨some 244, .bin .leq (.tmp 238) (.tmp 243), some (236, true)⟩, none),
  (⟨some 245, .pick (.tmp 236) (.tmp 244) (.const (.bool false)), none⟩, none),
  (⟨some 246, .mv (.tmp 245), none⟩, none),
  (⟨some 247, .load true [.int .i64, .int .i64, .int .i64, .int .i64] (.tmp 9), some (246, true)⟩, none),
  (⟨some 248, .fieldAddr 2 (.tmp 4), some (246, true)⟩, none),
  (⟨some 249, .load false [.slice] (.tmp 248), some (246, true)⟩, none),
  (⟨some 250, .len (.tmp 249), some (246, true)⟩, none),
  (⟨some 251, .call true (.func 17) [.tmp 247, .tmp 250] [(false, [.int .i64])] true, some (246, true)⟩, none),
  (⟨some 252, .fieldAddr 1 (.tmp 9), some (246, true)⟩, none),
  (⟨some 253, .load false [.int .i64] (.tmp 252), some (246, true)⟩, none),
  (⟨some 254, .bin .leq (.tmp 251) (.tmp 253), some (246, true)⟩, none),
  (⟨some 255, .pick (.tmp 246) (.tmp 254) (.const (.bool false)), none⟩, none),
  (⟨some 256, .mv (.tmp 255), none⟩, none),
  (⟨some 257, .call true (.func 5) [] [(false, [.bool])] true, some (256, true)⟩, none),
  (⟨some 258, .pick (.tmp 256) (.tmp 257) (.const (.bool false)), none⟩, none),
  (⟨some 8, .mv (.tmp 258), none⟩, none)]
def c4_38 : ACode := .seq (.draw [] 0 o4_39 [(7, 6), (13, 12), (19, 18), (25, 24)]) (.ret)
def c4_34 : ACode := .seq (.draw f4_35 0 o4_35 [(2, 1), (8, 1), (8, 3), (8, 4)]) (.seq (.draw f4_37 0 o4_37 [(2, 1), (8, 1), (8, 3), (8, 4)]) (.clear [0, 1, 2, 3, 6, 7, 8, 10, 11, 12, 13, 14, 15, 16, 20, 21, 24, 26, 28, 29, 30, 31, 32, 33, 34, 35, 36, 37, 38, 39, 40, 41, 42, 43, 44, 45, 46, 47, 48, 49, 50, 51, 52, 53, 54, 55, 56, 57, 58, 59, 60, 61, 62, 63, 64, 65, 66, 67, 68, 69, 70, 71, 72, 73, 74, 75, 76, 77, 78, 79, 80, 81, 82, 83, 84, 85, 86, 87, 88, 89, 90, 91, 92, 93, 94, 95, 96, 97, 98, 99, 100, 101, 102, 103, 104, 105, 106, 107, 108, 109, 110, 111, 112, 113, 114, 115, 116, 117, 118, 119, 120, 121, 122, 123, 124, 125, 126, 127, 128, 129, 130, 131, 132, 133, 134, 135, 136, 137, 138, 139, 140, 141, 142, 143, 144, 145, 146, 147, 148, 149, 150, 151, 152, 153, 154, 155, 156, 157, 158, 159, 160, 161, 162, 163, 164, 165, 166, 167, 168, 169, 170, 171, 172, 173, 174, 175, 176, 177, 178, 179, 180, 181, 182, 183, 184, 185, 186, 187, 188, 189, 190, 191, 192, 193, 194, 195, 196, 197, 198, 199, 200, 201, 202, 203, 204, 205, 206, 207, 208, 209, 210, 211, 212, 213, 214, 215, 216, 217, 218, 219, 220, 221, 222, 223, 224, 225, 226, 227, 228, 229, 230, 231, 232, 233, 234, 235, 236, 237, 238, 239, 240, 241, 242, 243, 244, 245, 246, 247, 248, 249, 250, 251, 252, 253, 254, 255, 256, 257, 258] c4_38))
def c4_30 : ACode := .seq (.draw f4_31 0 o4_31 [(2, 1), (11, 1), (11, 3), (11, 7)]) (.seq (.draw f4_33 0 o4_33 [(2, 1), (7, 1), (7, 3)]) (.clear [0, 1, 2, 3, 6, 7, 8, 10, 11, 12, 13, 14, 15, 16, 20, 21, 24, 25, 26, 27, 28, 29, 30, 31, 32, 33, 34, 35, 36, 37, 38, 39, 40, 41, 42, 43, 44, 45, 46, 47, 48, 49, 50, 51, 52, 53, 54, 55, 56, 57, 58, 59, 60, 61, 62, 63, 64, 65, 66, 67, 68, 69, 70, 71, 72, 73, 74, 75, 76, 77, 78, 79, 80, 81, 82, 83, 84, 85, 86, 87, 88, 89, 90, 91, 92, 93, 94, 95, 96, 97, 98, 99, 100, 101, 102, 103, 104, 105, 106, 107, 108, 109, 110, 111, 112, 113, 114, 115, 116, 117, 118, 119, 120, 121, 122, 123, 124, 125, 126, 127, 128, 129, 130, 131, 132, 133, 134, 135, 136, 137, 138, 139, 140, 141, 142, 143, 144, 145, 146, 147, 148, 149, 150, 151, 152, 153, 154, 155, 156, 157, 158, 159, 160, 161, 162, 163, 164, 165, 166, 167, 168, 169, 170, 171, 172, 173, 174, 175, 176, 177, 178, 179, 180, 181, 182, 183, 184, 185, 186, 187, 188, 189, 190, 191, 192, 193, 194, 195, 196, 197, 198, 199, 200, 201, 202, 203, 204, 205, 206, 207, 208, 209, 210, 211, 212, 213, 214, 215, 216, 217, 218, 219, 220, 221, 222, 223, 224, 225, 226, 227, 228, 229, 230, 231, 232, 233, 234, 235, 236, 237, 238, 239, 240, 241, 242, 243, 244, 245, 246, 247, 248, 249, 250, 251, 252, 253, 254, 255, 256, 257, 258] c4_34))
def c4_16 : ACode := .seq (.draw f4_17 0 o4_17 [(2, 1), (8, 1), (8, 3), (8, 4)]) (.seq (.seq (.draw [] 0 o4_20 [(20, 25)]) (.clear [0, 1, 2, 6, 7, 8, 10, 11, 12, 13, 14, 15, 16, 17, 18, 19, 20, 21, 22, 23, 24, 25, 26, 27, 28, 29, 30, 31, 32, 33, 34, 35, 36, 37, 38, 39, 40, 41, 42, 43, 44, 45, 46, 47, 48, 49, 50, 51, 52, 53, 54, 55, 56, 57, 58, 59, 60, 61, 62, 63, 64, 65, 66, 67, 68, 69, 70, 71, 72, 73, 74, 75, 76, 77, 78, 79, 80, 81, 82, 83, 84, 85, 86, 87, 88, 89, 90, 91, 92, 93, 94, 95, 96, 97, 98, 99, 100, 101, 102, 103, 104, 105, 106, 107, 108, 109, 110, 111, 112, 113, 114, 115, 116, 117, 118, 119, 120, 121, 122, 123, 124, 125, 126, 127, 128, 129, 130, 131, 132, 133, 134, 136, 137, 138, 139, 140, 141, 142, 143, 144, 145, 146, 147, 148, 149, 150, 151, 152, 153, 154, 155, 156, 157, 158, 159, 160, 161, 162, 163, 164, 165, 166, 167, 168, 169, 170, 171, 172, 173, 174, 175, 176, 177, 178, 179, 180, 181, 182, 183, 184, 185, 186, 187, 188, 189, 190, 191, 192, 193, 194, 195, 196, 197, 198, 199, 200, 201, 202, 203, 204, 205, 206, 207, 208, 209, 210, 211, 212, 213, 214, 215, 216, 217, 218, 219, 220, 221, 222, 223, 224, 225, 226, 227, 228, 229, 230, 231, 232, 233, 234, 235, 236, 237, 238, 239, 240, 241, 242, 243, 244, 245, 246, 247, 248, 249, 250, 251, 252, 253, 254, 255, 256, 257, 258] c4_21)) (.seq (.draw f4_27 0 o4_27 [(2, 1), (4, 1), (4, 3), (7, 1), (7, 3), (7, 5), (7, 6), (13, 1), (13, 3), (13, 5), (13, 6), (13, 8), (13, 9)]) (.seq (.draw f4_29 0 o4_29 [(2, 1), (8, 1), (8, 3), (8, 4)]) (.clear [0, 1, 2, 6, 7, 8, 10, 11, 12, 13, 14, 15, 16, 20, 21, 22, 23, 24, 25, 26, 27, 28, 29, 30, 31, 32, 33, 34, 35, 36, 37, 38, 39, 40, 41, 42, 43, 44, 45, 46, 47, 48, 49, 50, 51, 52, 53, 54, 55, 56, 57, 58, 59, 60, 61, 62, 63, 64, 65, 66, 67, 68, 69, 70, 71, 72, 73, 74, 75, 76, 77, 78, 79, 80, 81, 82, 83, 84, 85, 86, 87, 88, 89, 90, 91, 92, 93, 94, 95, 96, 97, 98, 99, 100, 101, 102, 103, 104, 105, 106, 107, 108, 109, 110, 111, 112, 113, 114, 115, 116, 117, 118, 119, 120, 121, 122, 123, 124, 125, 126, 127, 128, 129, 130, 131, 132, 133, 134, 135, 136, 137, 138, 139, 140, 141, 142, 143, 144, 145, 146, 147, 148, 149, 150, 151, 152, 153, 154, 155, 156, 157, 158, 159, 160, 161, 162, 163, 164, 165, 166, 167, 168, 169, 170, 171, 172, 173, 174, 175, 176, 177, 178, 179, 180, 181, 182, 183, 184, 185, 186, 187, 188, 189, 190, 191, 192, 193, 194, 195, 196, 197, 198, 199, 200, 201, 202, 203, 204, 205, 206, 207, 208, 209, 210, 211, 212, 213, 214, 215, 216, 217, 218, 219, 220, 221, 222, 223, 224, 225, 226, 227, 228, 229, 230, 231, 232, 233, 234, 235, 236, 237, 238, 239, 240, 241, 242, 243, 244, 245, 246, 247, 248, 249, 250, 251, 252, 253, 254, 255, 256, 257, 258] c4_30))))
def c4_12 : ACode := .seq (.draw f4_13 0 o4_13 [(2, 1), (8, 1), (8, 3), (8, 4)]) (.seq (.draw f4_15 0 o4_15 [(2, 1), (8, 1), (8, 3), (8, 4)]) (.clear [0, 1, 2, 7, 8, 15, 16, 17, 18, 19, 20, 21, 22, 23, 24, 25, 26, 27, 28, 29, 30, 31, 32, 33, 34, 35, 36, 37, 38, 39, 40, 41, 42, 43, 44, 45, 46, 47, 48, 49, 50, 51, 52, 53, 54, 55, 56, 57, 58, 59, 60, 61, 62, 63, 64, 65, 66, 67, 68, 69, 70, 71, 72, 73, 74, 75, 76, 77, 78, 79, 80, 81, 82, 83, 84, 85, 86, 87, 88, 89, 90, 91, 92, 93, 94, 95, 96, 97, 98, 99, 100, 101, 102, 103, 104, 105, 106, 107, 108, 109, 110, 111, 112, 113, 114, 115, 116, 117, 118, 119, 120, 121, 122, 123, 124, 125, 126, 127, 128, 129, 130, 131, 132, 133, 134, 135, 136, 137, 138, 139, 140, 141, 142, 143, 144, 145, 146, 147, 148, 149, 150, 151, 152, 153, 154, 155, 156, 157, 158, 159, 160, 161, 162, 163, 164, 165, 166, 167, 168, 169, 170, 171, 172, 173, 174, 175, 176, 177, 178, 179, 180, 181, 182, 183, 184, 185, 186, 187, 188, 189, 190, 191, 192, 193, 194, 195, 196, 197, 198, 199, 200, 201, 202, 203, 204, 205, 206, 207, 208, 209, 210, 211, 212, 213, 214, 215, 216, 217, 218, 219, 220, 221, 222, 223, 224, 225, 226, 227, 228, 229, 230, 231, 232, 233, 234, 235, 236, 237, 238, 239, 240, 241, 242, 243, 244, 245, 246, 247, 248, 249, 250, 251, 252, 253, 254, 255, 256, 257, 258] c4_16))
def c4_0 : ACode := .seq (.ops o4_1) (.seq (.seq (.ops o4_4) (.cond (.tmp 44) (.seq (.ops o4_7) (.ret)) (.skip))) (.seq (.draw f4_11 0 o4_11 [(2, 1), (8, 1), (8, 3), (8, 4)]) (.clear [0, 1, 2, 7, 8, 11, 12, 13, 14, 15, 16, 17, 18, 19, 20, 21, 22, 23, 24, 25, 26, 27, 28, 29, 30, 31, 32, 33, 34, 35, 36, 37, 38, 39, 40, 41, 42, 43, 44, 45, 46, 47, 48, 49, 50, 51, 52, 53, 54, 55, 56, 57, 58, 59, 60, 61, 62, 63, 64, 65, 66, 67, 68, 69, 70, 71, 72, 73, 74, 75, 76, 77, 78, 79, 80, 81, 82, 83, 84, 85, 86, 87, 88, 89, 90, 91, 92, 93, 94, 95, 96, 97, 98, 99, 100, 101, 102, 103, 104, 105, 106, 107, 108, 109, 110, 111, 112, 113, 114, 115, 116, 117, 118, 119, 120, 121, 122, 123, 124, 125, 126, 127, 128, 129, 130, 131, 132, 133, 134, 135, 136, 137, 138, 139, 140, 141, 142, 143, 144, 145, 146, 147, 148, 149, 150, 151, 152, 153, 154, 155, 156, 157, 158, 159, 160, 161, 162, 163, 164, 165, 166, 167, 168, 169, 170, 171, 172, 173, 174, 175, 176, 177, 178, 179, 180, 181, 182, 183, 184, 185, 186, 187, 188, 189, 190, 191, 192, 193, 194, 195, 196, 197, 198, 199, 200, 201, 202, 203, 204, 205, 206, 207, 208, 209, 210, 211, 212, 213, 214, 215, 216, 217, 218, 219, 220, 221, 222, 223, 224, 225, 226, 227, 228, 229, 230, 231, 232, 233, 234, 235, 236, 237, 238, 239, 240, 241, 242, 243, 244, 245, 246, 247, 248, 249, 250, 251, 252, 253, 254, 255, 256, 257, 258] c4_12)))
def a4 : AFun := ⟨259, [.tmp 8], c4_0⟩
theorem ok4 : OkFun Try.prog 4 a4 := ⟨Try.f4, Try.f4.body.getD .skip, Try.func4, by kernel_rfl, by kernel_rfl, by kernel_rfl, by kernel_rfl, by kernel_rfl⟩
/-! #### skylightlaw49.awake -/
def o5_1 : List AOper := [⟨some 0, .mv (.const (.bool false)), none⟩]
def o5_3 : List AOper := [⟨some 7, .build [.int .i64 0, .int .i64 0, .int .i64 0] [(0, 1, .const (.int .i64 1)), (1, 1, .const (.int .i64 2)), (2, 1, .const (.int .i64 3))], none⟩,
  ⟨some 8, .buildSlice 3 1 [.int .i64 0, .int .i64 0, .int .i64 0] [(0, 3, .tmp 7)], none⟩,
  ⟨some 9, .build [.int .i64 0, .int .i64 0, .slice none 0 0] [(0, 1, .const (.int .i64 1)), (1, 1, .const (.int .i64 1)), (2, 1, .tmp 8)], none⟩,
  ⟨some 1, .alloc [.int .i64 0, .int .i64 0, .slice none 0 0], none⟩,
  ⟨none, .store 3 (.tmp 1) (.tmp 9), none⟩]
def o5_5 : List AOper := [⟨some 10, .build [.int .i64 0, .int .i64 0, .int .i64 0] [(0, 1, .const (.int .i64 4)), (1, 1, .const (.int .i64 2)), (2, 1, .const (.int .i64 1))], none⟩,
  ⟨some 11, .buildSlice 3 1 [.int .i64 0, .int .i64 0, .int .i64 0] [(0, 3, .tmp 10)], none⟩,
  ⟨some 12, .build [.int .i64 0, .int .i64 0, .slice none 0 0] [(0, 1, .const (.int .i64 1)), (1, 1, .const (.int .i64 1)), (2, 1, .tmp 11)], none⟩,
  ⟨some 2, .alloc [.int .i64 0, .int .i64 0, .slice none 0 0], none⟩,
  ⟨none, .store 3 (.tmp 2) (.tmp 12), none⟩]
def o5_7 : List AOper := [⟨some 14, .load true [.int .i64, .int .i64, .slice] (.tmp 1), none⟩,
  ⟨some 15, .load true [.int .i64, .int .i64, .slice] (.tmp 2), none⟩,
  ⟨some 16, .call false (.func 6) [.tmp 14, .tmp 15] [(true, [.int .i64, .int .i64, .int .i64, .int .i64]), (false, [.bool])] false, none⟩,
  ⟨some 13, .mv (.tmp 16), none⟩,
  ⟨some 17, .extract (.tmp 13) 0, none⟩,
  ⟨some 18, .extract (.tmp 13) 1, none⟩,
  ⟨some 3, .alloc [.int .i64 0, .int .i64 0, .int .i64 0, .int .i64 0], none⟩,
  ⟨none, .store 4 (.tmp 3) (.tmp 17), none⟩,
  ⟨some 4, .mv (.tmp 18), none⟩]
def o5_9 : List AOper := [⟨some 20, .load true [.int .i64, .int .i64, .slice] (.tmp 1), none⟩,
  ⟨some 21, .build [.int .i64 0, .int .i64 0, .slice none 0 0] [], none⟩,
  ⟨some 22, .call false (.func 6) [.tmp 20, .tmp 21] [(true, [.int .i64, .int .i64, .int .i64, .int .i64]), (false, [.bool])] false, none⟩,
  ⟨some 19, .mv (.tmp 22), none⟩,
  ⟨some 23, .extract (.tmp 19) 0, none⟩,
  ⟨some 24, .extract (.tmp 19) 1, none⟩,
  ⟨some 5, .alloc [.int .i64 0, .int .i64 0, .int .i64 0, .int .i64 0], none⟩,
  ⟨none, .store 4 (.tmp 5) (.tmp 23), none⟩,
  ⟨some 6, .mv (.tmp 24), none⟩]
def o5_11 : List AOper := [⟨some 25, .mv (.tmp 4), none⟩,
  ⟨some 26, .mv (.tmp 25), none⟩,
  ⟨some 27, .load true [.int .i64, .int .i64, .int .i64, .int .i64] (.tmp 3), some (26, true)⟩,
  ⟨some 28, .build [.int .i64 0, .int .i64 0, .int .i64 0, .int .i64 0] [(0, 1, .const (.int .i64 1)), (1, 1, .const (.int .i64 3)), (2, 1, .const (.int .i64 5)), (3, 1, .const (.int .i64 13))], some (26, true)⟩,
  ⟨some 29, .eqAgg [.int .i64, .int .i64, .int .i64, .int .i64] false (.tmp 27) (.tmp 28), some (26, true)⟩,
  ⟨some 30, .pick (.tmp 26) (.tmp 29) (.const (.bool false)), none⟩,
  ⟨some 31, .mv (.tmp 30), none⟩,
  ⟨some 32, .mv (.tmp 6), some (31, true)⟩,
  ⟨some 33, .un .not (.tmp 32), some (31, true)⟩,
  ⟨some 34, .pick (.tmp 31) (.tmp 33) (.const (.bool false)), none⟩,
  ⟨some 35, .mv (.tmp 34), none⟩,
  ⟨some 36, .load true [.int .i64, .int .i64, .slice] (.tmp 1), some (35, true)⟩,
  ⟨some 37, .load true [.int .i64, .int .i64, .slice] (.tmp 2), some (35, true)⟩,
  ⟨some 38, .call false (.func 9) [.tmp 36, .tmp 37] [(false, [.slice])] true, some (35, true)⟩,
  ⟨some 39, .len (.tmp 38), some (35, true)⟩,
  ⟨some 40, .bin .eql (.tmp 39) (.const (.int .i64 1)), some (35, true)⟩,
  ⟨some 41, .pick (.tmp 35) (.tmp 40) (.const (.bool false)), none⟩,
  ⟨some 42, .mv (.tmp 41), none⟩,
  ⟨some 43, .load true [.int .i64, .int .i64, .int .i64, .int .i64] (.tmp 3), some (42, true)⟩,
  ⟨some 44, .call true (.func 17) [.tmp 43, .const (.int .i64 1)] [(false, [.int .i64])] true, some (42, true)⟩,
  ⟨some 45, .bin .eql (.tmp 44) (.const (.int .i64 2)), some (42, true)⟩,
  ⟨some 46, .pick (.tmp 42) (.tmp 45) (.const (.bool false)), none⟩,
  ⟨some 0, .mv (.tmp 46), none⟩]
def c5_0 : ACode := .seq (.ops o5_1) (.seq (.ops o5_3) (.seq (.ops o5_5) (.seq (.ops o5_7) (.seq (.ops o5_9) (.seq (.ops o5_11) (.ret))))))
def a5 : AFun := ⟨47, [.tmp 0], c5_0⟩
theorem ok5 : OkFun Try.prog 5 a5 := ⟨Try.f5, Try.f5.body.getD .skip, Try.func5, by kernel_rfl, by kernel_rfl, by kernel_rfl, by kernel_rfl, by kernel_rfl⟩
/-! #### diff.Of -/
def o6_1 : List AOper := [⟨some 2, .box (.tmp 0), none⟩,
  ⟨some 3, .box (.tmp 1), none⟩,
  ⟨some 4, .alloc [.int .i64 0, .int .i64 0, .int .i64 0, .int .i64 0], none⟩,
  ⟨some 5, .mv (.const (.bool false)), none⟩]
def o6_4 : List AOper := [⟨some 12, .load true [.int .i64, .int .i64, .slice] (.tmp 2), none⟩,
  ⟨some 13, .load true [.int .i64, .int .i64, .slice] (.tmp 3), none⟩,
  ⟨some 14, .call false (.func 20) [.tmp 12, .tmp 13] [(false, [.bool])] true, none⟩,
  ⟨some 15, .un .not (.tmp 14), none⟩]
def o6_7 : List AOper := [⟨some 16, .build [.int .i64 0, .int .i64 0, .int .i64 0, .int .i64 0] [], none⟩,
  ⟨none, .store 4 (.tmp 4) (.tmp 16), none⟩,
  ⟨some 5, .mv (.const (.bool false)), none⟩]
def o6_11 : List AOper := [⟨some 6, .alloc [.int .i64 0, .int .i64 0, .int .i64 0, .int .i64 0], none⟩]
def o6_14 : List AOper := [⟨some 17, .load true [.int .i64, .int .i64, .slice] (.tmp 2), none⟩,
  ⟨some 18, .load true [.int .i64, .int .i64, .slice] (.tmp 3), none⟩,
  ⟨some 19, .call false (.func 21) [.tmp 17, .tmp 18] [(false, [.any])] true, none⟩]
def o6_17 : List AOper := [⟨some 8, .alloc [.int .i64 0, .int .i64 0, .int .i64 0, .int .i64 0, .int .i64 0, .int .i64 0], none⟩,
  ⟨none, .store 6 (.tmp 8) (.tmp 21), none⟩]
def o6_21 : List AOper := [⟨some 22, .fieldAddr 0 (.tmp 8), none⟩,
  ⟨some 23, .load true [.int .i64, .int .i64, .int .i64] (.tmp 22), none⟩,
  ⟨some 24, .fieldAddr 3 (.tmp 8), none⟩,
  ⟨some 25, .load true [.int .i64, .int .i64, .int .i64] (.tmp 24), none⟩,
  ⟨some 26, .eqAgg [.int .i64, .int .i64, .int .i64] false (.tmp 23) (.tmp 25), none⟩]
def o6_26 : List AOper := [⟨some 27, .fieldAddr 0 (.tmp 6), none⟩,
  ⟨some 28, .load false [.int .i64] (.tmp 27), none⟩,
  ⟨some 29, .bin .add (.tmp 28) (.const (.int .i64 1)), none⟩,
  ⟨some 30, .fieldAddr 0 (.tmp 6), none⟩,
  ⟨none, .store 1 (.tmp 30) (.tmp 29), none⟩]
def o6_28 : List AOper := [⟨some 31, .fieldAddr 0 (.tmp 8), none⟩,
  ⟨some 32, .load true [.int .i64, .int .i64, .int .i64] (.tmp 31), none⟩,
  ⟨some 33, .mv (.const (.int .i64 0)), none⟩]
def o6_32 : List AOper := [⟨some 34, .bin .lss (.tmp 33) (.const (.int .i64 3)), none⟩]
def o6_40 : List AOper := [⟨some 35, .mv (.tmp 33), none⟩,
  ⟨some 36, .index false 3 1 (.tmp 32) (.tmp 33), none⟩,
  ⟨some 9, .mv (.tmp 35), none⟩,
  ⟨some 10, .mv (.tmp 36), none⟩]
def o6_42 : List AOper := [⟨some 37, .mv (.tmp 10), none⟩,
  ⟨some 38, .mv (.tmp 9), none⟩,
  ⟨some 39, .fieldAddr 3 (.tmp 8), none⟩,
  ⟨some 40, .indexArr 3 1 (.tmp 39) (.tmp 38), none⟩,
  ⟨some 41, .load false [.int .i64] (.tmp 40), none⟩,
  ⟨some 42, .bin .sub (.tmp 37) (.tmp 41), none⟩,
  ⟨some 11, .mv (.tmp 42), none⟩]
def o6_44 : List AOper := [⟨some 43, .fieldAddr 1 (.tmp 6), none⟩,
  ⟨some 44, .load false [.int .i64] (.tmp 43), none⟩,
  ⟨some 45, .mv (.tmp 11), none⟩,
  ⟨some 46, .mv (.tmp 11), none⟩,
  ⟨some 47, .un .neg (.tmp 46), none⟩,
  ⟨some 48, .minmax true [.tmp 44, .tmp 45, .tmp 47], none⟩,
  ⟨some 49, .fieldAddr 1 (.tmp 6), none⟩,
  ⟨none, .store 1 (.tmp 49) (.tmp 48), none⟩]
def o6_46 : List AOper := [⟨some 50, .fieldAddr 2 (.tmp 6), none⟩,
  ⟨some 51, .load false [.int .i64] (.tmp 50), none⟩,
  ⟨some 52, .mv (.tmp 11), none⟩,
  ⟨some 53, .mv (.tmp 11), none⟩,
  ⟨some 54, .un .neg (.tmp 53), none⟩,
  ⟨some 55, .minmax true [.tmp 52, .tmp 54], none⟩,
  ⟨some 56, .bin .add (.tmp 51) (.tmp 55), none⟩,
  ⟨some 57, .fieldAddr 2 (.tmp 6), none⟩,
  ⟨none, .store 1 (.tmp 57) (.tmp 56), none⟩]
def o6_47 : List AOper := [⟨some 58, .fieldAddr 3 (.tmp 6), none⟩,
  ⟨some 59, .load false [.int .i64] (.tmp 58), none⟩,
  ⟨some 60, .mv (.tmp 11), none⟩,
  ⟨some 61, .mv (.tmp 11), none⟩,
  ⟨some 62, .bin .mul (.tmp 60) (.tmp 61), none⟩,
  ⟨some 63, .bin .add (.tmp 59) (.tmp 62), none⟩,
  ⟨some 64, .fieldAddr 3 (.tmp 6), none⟩,
  ⟨none, .store 1 (.tmp 64) (.tmp 63), none⟩]
def o6_48 : List AOper := [⟨some 65, .bin .add (.tmp 33) (.const (.int .i64 1)), none⟩,
  ⟨some 33, .mv (.tmp 65), none⟩]
def c6_48 : ACode := .ops o6_48
def b6_30 : ACode := .post (.seq (.ops o6_32) (.seq (.cond (.tmp 34) (.skip) (.exit 2)) (.seq (.block 3 (.seq (.ops o6_40) (.seq (.ops o6_42) (.seq (.ops o6_44) (.seq (.ops o6_46) (.ops o6_47)))))) (.clear [0, 1, 2, 3, 4, 5, 7, 9, 10, 11, 12, 13, 14, 15, 16, 17, 18, 19, 20, 21, 22, 23, 24, 25, 26, 27, 28, 29, 30, 31, 34, 35, 36, 37, 38, 39, 40, 41, 42, 43, 44, 45, 46, 47, 48, 49, 50, 51, 52, 53, 54, 55, 56, 57, 58, 59, 60, 61, 62, 63, 64, 65, 66] c6_48)))) [0, 1, 2, 3, 4, 5, 7, 9, 10, 11, 12, 13, 14, 15, 16, 17, 18, 19, 20, 21, 22, 23, 24, 25, 26, 27, 28, 29, 30, 31, 34, 35, 36, 37, 38, 39, 40, 41, 42, 43, 44, 45, 46, 47, 48, 49, 50, 51, 52, 53, 54, 55, 56, 57, 58, 59, 60, 61, 62, 63, 64, 65, 66]
def b6_16 : ACode := .block 1 (.seq (.seq (.ops o6_21) (.cond (.tmp 26) (.exit 1) (.skip))) (.seq (.ops o6_26) (.seq (.ops o6_28) (.block 2 (.clear [0, 1, 2, 3, 4, 5, 7, 9, 10, 11, 12, 13, 14, 15, 16, 17, 18, 19, 20, 21, 22, 23, 24, 25, 26, 27, 28, 29, 30, 31, 34, 35, 36, 37, 38, 39, 40, 41, 42, 43, 44, 45, 46, 47, 48, 49, 50, 51, 52, 53, 54, 55, 56, 57, 58, 59, 60, 61, 62, 63, 64, 65, 66] (.loop b6_30))))))
def o6_50 : List AOper := [⟨some 66, .load true [.int .i64, .int .i64, .int .i64, .int .i64] (.tmp 6), none⟩,
  ⟨none, .store 4 (.tmp 4) (.tmp 66), none⟩,
  ⟨some 5, .mv (.const (.bool true)), none⟩]
def c6_49 : ACode := .seq (.ops o6_50) (.ret)
def c6_0 : ACode := .seq (.ops o6_1) (.seq (.seq (.ops o6_4) (.cond (.tmp 15) (.seq (.ops o6_7) (.ret)) (.skip))) (.seq (.ops o6_11) (.seq (.seq (.ops o6_14) (.block 0 (.clear [0, 1, 2, 3, 7, 8, 9, 10, 11, 12, 13, 14, 15, 16, 17, 18, 20, 22, 23, 24, 25, 26, 27, 28, 29, 30, 31, 32, 33, 34, 35, 36, 37, 38, 39, 40, 41, 42, 43, 44, 45, 46, 47, 48, 49, 50, 51, 52, 53, 54, 55, 56, 57, 58, 59, 60, 61, 62, 63, 64, 65, 66] (.rangeFunc (.tmp 19) [20, 21] (.ops o6_17) b6_16)))) (.clear [0, 1, 2, 3, 5, 7, 8, 9, 10, 11, 12, 13, 14, 15, 16, 17, 18, 19, 20, 21, 22, 23, 24, 25, 26, 27, 28, 29, 30, 31, 32, 33, 34, 35, 36, 37, 38, 39, 40, 41, 42, 43, 44, 45, 46, 47, 48, 49, 50, 51, 52, 53, 54, 55, 56, 57, 58, 59, 60, 61, 62, 63, 64, 65, 66] c6_49))))
def a6 : AFun := ⟨67, [.cell true [.int .i64, .int .i64, .int .i64, .int .i64] 4, .tmp 5], c6_0⟩
theorem ok6 : OkFun Try.prog 6 a6 := ⟨Try.f6, Try.f6.body.getD .skip, Try.func6, by kernel_rfl, by kernel_rfl, by kernel_rfl, by kernel_rfl, by kernel_rfl⟩
/-! #### skylightlaw49.of -/
def o7_1 : List AOper := [⟨some 1, .box (.tmp 0), none⟩,
  ⟨some 2, .alloc [.int .i64 0, .int .i64 0, .slice none 0 0], none⟩]
def o7_3 : List AOper := [⟨some 3, .fieldAddr 0 (.tmp 1), none⟩,
  ⟨some 4, .load false [.int .i64] (.tmp 3), none⟩,
  ⟨some 5, .fieldAddr 1 (.tmp 1), none⟩,
  ⟨some 6, .load false [.int .i64] (.tmp 5), none⟩,
  ⟨some 7, .fieldAddr 2 (.tmp 1), none⟩,
  ⟨some 8, .load false [.slice] (.tmp 7), none⟩,
  ⟨some 9, .build [.int .i64 0, .int .i64 0, .slice none 0 0] [(0, 1, .tmp 4), (1, 1, .tmp 6), (2, 1, .tmp 8)], none⟩,
  ⟨none, .store 3 (.tmp 2) (.tmp 9), none⟩]
def c7_0 : ACode := .seq (.ops o7_1) (.seq (.ops o7_3) (.ret))
def a7 : AFun := ⟨10, [.cell true [.int .i64, .int .i64, .slice] 2], c7_0⟩
theorem ok7 : OkFun Try.prog 7 a7 := ⟨Try.f7, Try.f7.body.getD .skip, Try.func7, by kernel_rfl, by kernel_rfl, by kernel_rfl, by kernel_rfl, by kernel_rfl⟩
/-! #### skylightref49.Of -/
def o8_1 : List AOper := [⟨some 2, .box (.tmp 0), none⟩,
  ⟨some 3, .box (.tmp 1), none⟩,
  ⟨some 4, .alloc [.int .i64 0, .int .i64 0, .int .i64 0, .int .i64 0], none⟩,
  ⟨some 5, .mv (.const (.bool false)), none⟩]
def o8_3 : List AOper := [⟨some 10, .build [.int .i64 0, .int .i64 0, .int .i64 0, .int .i64 0] [], none⟩,
  ⟨some 6, .alloc [.int .i64 0, .int .i64 0, .int .i64 0, .int .i64 0], none⟩,
  ⟨none, .store 4 (.tmp 6) (.tmp 10), none⟩]
def o8_6 : List AOper := [⟨some 11, .load true [.int .i64, .int .i64, .slice] (.tmp 2), none⟩,
  ⟨some 12, .load true [.int .i64, .int .i64, .slice] (.tmp 3), none⟩,
  ⟨some 13, .call false (.func 19) [.tmp 11, .tmp 12] [(false, [.bool])] true, none⟩,
  ⟨some 14, .un .not (.tmp 13), none⟩]
def o8_9 : List AOper := [⟨some 15, .load true [.int .i64, .int .i64, .int .i64, .int .i64] (.tmp 6), none⟩,
  ⟨none, .store 4 (.tmp 4) (.tmp 15), none⟩,
  ⟨some 5, .mv (.const (.bool false)), none⟩]
def o8_14 : List AOper := [⟨some 7, .mv (.const (.int .i64 0)), none⟩]
def o8_19 : List AOper := [⟨some 16, .mv (.tmp 7), none⟩,
  ⟨some 17, .fieldAddr 2 (.tmp 2), none⟩,
  ⟨some 18, .load false [.slice] (.tmp 17), none⟩,
  ⟨some 19, .len (.tmp 18), none⟩,
  ⟨some 20, .bin .lss (.tmp 16) (.tmp 19), none⟩]
def o8_27 : List (AOper × Option Nat) := [(⟨some 23, .fieldAddr 2 (.tmp 2), none⟩, none),
  (⟨some 24, .load false [.slice] (.tmp 23), none⟩, none),
  (⟨some 25, .mv (.tmp 7), none⟩, none),
  (⟨some 26, .indexAddr 3 (.tmp 24) (.tmp 25), none⟩, none),
  (⟨some 27, .load true [.int .i64, .int .i64, .int .i64] (.tmp 26), none⟩, none),
  (⟨some 28, .fieldAddr 2 (.tmp 3), none⟩, none),
  (⟨some 29, .load false [.slice] (.tmp 28), none⟩, none),
  (⟨some 30, .mv (.tmp 7), none⟩, none),
  (⟨some 31, .indexAddr 3 (.tmp 29) (.tmp 30), none⟩, none),
  (⟨some 32, .load true [.int .i64, .int .i64, .int .i64] (.tmp 31), none⟩, none),
  (⟨some 33, .eqAgg [.int .i64, .int .i64, .int .i64] true (.tmp 27) (.tmp 32), none⟩, none)]
def o8_29 : List AOper := [⟨some 34, .fieldAddr 0 (.tmp 6), none⟩,
  ⟨some 35, .load false [.int .i64] (.tmp 34), none⟩,
  ⟨some 36, .bin .add (.tmp 35) (.const (.int .i64 1)), none⟩,
  ⟨some 37, .fieldAddr 0 (.tmp 6), none⟩,
  ⟨none, .store 1 (.tmp 37) (.tmp 36), none⟩]
def o8_32 : List AOper := [⟨some 8, .mv (.const (.int .i64 0)), none⟩]
def o8_37 : List AOper := [⟨some 38, .mv (.tmp 8), none⟩,
  ⟨some 39, .bin .lss (.tmp 38) (.const (.int .i64 3)), none⟩]
def o8_44 : List (AOper × Option Nat) := [(⟨some 42, .fieldAddr 2 (.tmp 2), none⟩, none),
  (⟨some 43, .load false [.slice] (.tmp 42), none⟩, none),
  (⟨some 44, .mv (.tmp 7), none⟩, none),
  (⟨some 45, .mv (.tmp 8), none⟩, none),
  (⟨some 46, .indexAddr 3 (.tmp 43) (.tmp 44), none⟩, none),
  (⟨some 47, .indexArr 3 1 (.tmp 46) (.tmp 45), none⟩, none),
  (⟨some 48, .load false [.int .i64] (.tmp 47), none⟩, none),
  (⟨some 49, .fieldAddr 2 (.tmp 3), none⟩, none),
  (⟨some 50, .load false [.slice] (.tmp 49), none⟩, none),
  (⟨some 51, .mv (.tmp 7), none⟩, none),
  (⟨some 52, .mv (.tmp 8), none⟩, none),
  (⟨some 53, .indexAddr 3 (.tmp 50) (.tmp 51), none⟩, none),
  (⟨some 54, .indexArr 3 1 (.tmp 53) (.tmp 52), none⟩, none),
  (⟨some 55, .load false [.int .i64] (.tmp 54), none⟩, none),
  (⟨some 56, .bin .sub (.tmp 48) (.tmp 55), none⟩, none),
  (⟨some 57, .fieldAddr 2 (.tmp 3), none⟩, none),
  (⟨some 58, .load false [.slice] (.tmp 57), none⟩, none),
  (⟨some 59, .mv (.tmp 7), none⟩, none),
  (⟨some 60, .mv (.tmp 8), none⟩, none),
  (⟨some 61, .indexAddr 3 (.tmp 58) (.tmp 59), none⟩, none),
  (⟨some 62, .indexArr 3 1 (.tmp 61) (.tmp 60), none⟩, none),
  (⟨some 63, .load false [.int .i64] (.tmp 62), none⟩, none),
  (⟨some 64, .fieldAddr 2 (.tmp 2), none⟩, none),
  (⟨some 65, .load false [.slice] (.tmp 64), none⟩, none),
  (⟨some 66, .mv (.tmp 7), none⟩, none),
  (⟨some 67, .mv (.tmp 8), none⟩, none),
  (⟨some 68, .indexAddr 3 (.tmp 65) (.tmp 66), none⟩, none),
  (⟨some 69, .indexArr 3 1 (.tmp 68) (.tmp 67), none⟩, none),
  (⟨some 70, .load false [.int .i64] (.tmp 69), none⟩, none),
  (⟨some 71, .bin .sub (.tmp 63) (.tmp 70), none⟩, none),
  (⟨some 72, .minmax true [.tmp 56, .tmp 71], none⟩, none),
  (⟨some 9, .mv (.tmp 72), none⟩, none)]
def o8_46 : List AOper := [⟨some 73, .fieldAddr 1 (.tmp 6), none⟩,
  ⟨some 74, .load false [.int .i64] (.tmp 73), none⟩,
  ⟨some 75, .mv (.tmp 9), none⟩,
  ⟨some 76, .minmax true [.tmp 74, .tmp 75], none⟩,
  ⟨some 77, .fieldAddr 1 (.tmp 6), none⟩,
  ⟨none, .store 1 (.tmp 77) (.tmp 76), none⟩]
def o8_48 : List AOper := [⟨some 78, .fieldAddr 2 (.tmp 6), none⟩,
  ⟨some 79, .load false [.int .i64] (.tmp 78), none⟩,
  ⟨some 80, .mv (.tmp 9), none⟩,
  ⟨some 81, .bin .add (.tmp 79) (.tmp 80), none⟩,
  ⟨some 82, .fieldAddr 2 (.tmp 6), none⟩,
  ⟨none, .store 1 (.tmp 82) (.tmp 81), none⟩]
def o8_49 : List AOper := [⟨some 83, .fieldAddr 3 (.tmp 6), none⟩,
  ⟨some 84, .load false [.int .i64] (.tmp 83), none⟩,
  ⟨some 85, .mv (.tmp 9), none⟩,
  ⟨some 86, .mv (.tmp 9), none⟩,
  ⟨some 87, .bin .mul (.tmp 85) (.tmp 86), none⟩,
  ⟨some 88, .bin .add (.tmp 84) (.tmp 87), none⟩,
  ⟨some 89, .fieldAddr 3 (.tmp 6), none⟩,
  ⟨none, .store 1 (.tmp 89) (.tmp 88), none⟩]
def o8_50 : List AOper := [⟨some 40, .mv (.tmp 8), none⟩,
  ⟨some 41, .bin .add (.tmp 40) (.const (.int .i64 1)), none⟩,
  ⟨some 8, .mv (.tmp 41), none⟩]
def c8_50 : ACode := .ops o8_50
def b8_34 : ACode := .post (.seq (.seq (.ops o8_37) (.cond (.tmp 39) (.skip) (.exit 2))) (.seq (.block 3 (.seq (.draw [] 0 o8_44 []) (.seq (.ops o8_46) (.seq (.ops o8_48) (.ops o8_49))))) (.clear [0, 1, 5, 9, 10, 11, 12, 13, 14, 15, 16, 17, 18, 19, 20, 21, 22, 23, 24, 25, 26, 27, 28, 29, 30, 31, 32, 33, 34, 35, 36, 37, 38, 39, 40, 41, 42, 43, 44, 45, 46, 47, 48, 49, 50, 51, 52, 53, 54, 55, 56, 57, 58, 59, 60, 61, 62, 63, 64, 65, 66, 67, 68, 69, 70, 71, 72, 73, 74, 75, 76, 77, 78, 79, 80, 81, 82, 83, 84, 85, 86, 87, 88, 89, 90] c8_50))) [0, 1, 5, 9, 10, 11, 12, 13, 14, 15, 16, 17, 18, 19, 20, 21, 22, 23, 24, 25, 26, 27, 28, 29, 30, 31, 32, 33, 34, 35, 36, 37, 38, 39, 40, 41, 42, 43, 44, 45, 46, 47, 48, 49, 50, 51, 52, 53, 54, 55, 56, 57, 58, 59, 60, 61, 62, 63, 64, 65, 66, 67, 68, 69, 70, 71, 72, 73, 74, 75, 76, 77, 78, 79, 80, 81, 82, 83, 84, 85, 86, 87, 88, 89, 90]
def c8_31 : ACode := .seq (.ops o8_32) (.block 2 (.clear [0, 1, 5, 9, 10, 11, 12, 13, 14, 15, 16, 17, 18, 19, 20, 21, 22, 23, 24, 25, 26, 27, 28, 29, 30, 31, 32, 33, 34, 35, 36, 37, 38, 39, 40, 41, 42, 43, 44, 45, 46, 47, 48, 49, 50, 51, 52, 53, 54, 55, 56, 57, 58, 59, 60, 61, 62, 63, 64, 65, 66, 67, 68, 69, 70, 71, 72, 73, 74, 75, 76, 77, 78, 79, 80, 81, 82, 83, 84, 85, 86, 87, 88, 89, 90] (.loop b8_34)))
def o8_51 : List AOper := [⟨some 21, .mv (.tmp 7), none⟩,
  ⟨some 22, .bin .add (.tmp 21) (.const (.int .i64 1)), none⟩,
  ⟨some 7, .mv (.tmp 22), none⟩]
def c8_51 : ACode := .ops o8_51
def b8_16 : ACode := .post (.seq (.seq (.ops o8_19) (.cond (.tmp 20) (.skip) (.exit 0))) (.seq (.block 1 (.seq (.seq (.draw [] 0 o8_27 []) (.cond (.tmp 33) (.ops o8_29) (.skip))) (.clear [0, 1, 5, 8, 9, 10, 11, 12, 13, 14, 15, 16, 17, 18, 19, 20, 21, 22, 23, 24, 25, 26, 27, 28, 29, 30, 31, 32, 33, 34, 35, 36, 37, 38, 39, 40, 41, 42, 43, 44, 45, 46, 47, 48, 49, 50, 51, 52, 53, 54, 55, 56, 57, 58, 59, 60, 61, 62, 63, 64, 65, 66, 67, 68, 69, 70, 71, 72, 73, 74, 75, 76, 77, 78, 79, 80, 81, 82, 83, 84, 85, 86, 87, 88, 89, 90] c8_31))) (.clear [0, 1, 5, 8, 9, 10, 11, 12, 13, 14, 15, 16, 17, 18, 19, 20, 21, 22, 23, 24, 25, 26, 27, 28, 29, 30, 31, 32, 33, 34, 35, 36, 37, 38, 39, 40, 41, 42, 43, 44, 45, 46, 47, 48, 49, 50, 51, 52, 53, 54, 55, 56, 57, 58, 59, 60, 61, 62, 63, 64, 65, 66, 67, 68, 69, 70, 71, 72, 73, 74, 75, 76, 77, 78, 79, 80, 81, 82, 83, 84, 85, 86, 87, 88, 89, 90] c8_51))) [0, 1, 5, 8, 9, 10, 11, 12, 13, 14, 15, 16, 17, 18, 19, 20, 21, 22, 23, 24, 25, 26, 27, 28, 29, 30, 31, 32, 33, 34, 35, 36, 37, 38, 39, 40, 41, 42, 43, 44, 45, 46, 47, 48, 49, 50, 51, 52, 53, 54, 55, 56, 57, 58, 59, 60, 61, 62, 63, 64, 65, 66, 67, 68, 69, 70, 71, 72, 73, 74, 75, 76, 77, 78, 79, 80, 81, 82, 83, 84, 85, 86, 87, 88, 89, 90]
def o8_53 : List AOper := [⟨some 90, .load true [.int .i64, .int .i64, .int .i64, .int .i64] (.tmp 6), none⟩,
  ⟨none, .store 4 (.tmp 4) (.tmp 90), none⟩,
  ⟨some 5, .mv (.const (.bool true)), none⟩]
def c8_52 : ACode := .seq (.ops o8_53) (.ret)
def c8_0 : ACode := .seq (.ops o8_1) (.seq (.ops o8_3) (.seq (.seq (.ops o8_6) (.cond (.tmp 14) (.seq (.ops o8_9) (.ret)) (.skip))) (.seq (.seq (.ops o8_14) (.block 0 (.clear [0, 1, 5, 8, 9, 10, 11, 12, 13, 14, 15, 16, 17, 18, 19, 20, 21, 22, 23, 24, 25, 26, 27, 28, 29, 30, 31, 32, 33, 34, 35, 36, 37, 38, 39, 40, 41, 42, 43, 44, 45, 46, 47, 48, 49, 50, 51, 52, 53, 54, 55, 56, 57, 58, 59, 60, 61, 62, 63, 64, 65, 66, 67, 68, 69, 70, 71, 72, 73, 74, 75, 76, 77, 78, 79, 80, 81, 82, 83, 84, 85, 86, 87, 88, 89, 90] (.loop b8_16)))) (.clear [0, 1, 2, 3, 5, 7, 8, 9, 10, 11, 12, 13, 14, 15, 16, 17, 18, 19, 20, 21, 22, 23, 24, 25, 26, 27, 28, 29, 30, 31, 32, 33, 34, 35, 36, 37, 38, 39, 40, 41, 42, 43, 44, 45, 46, 47, 48, 49, 50, 51, 52, 53, 54, 55, 56, 57, 58, 59, 60, 61, 62, 63, 64, 65, 66, 67, 68, 69, 70, 71, 72, 73, 74, 75, 76, 77, 78, 79, 80, 81, 82, 83, 84, 85, 86, 87, 88, 89, 90] c8_52))))
def a8 : AFun := ⟨91, [.cell true [.int .i64, .int .i64, .int .i64, .int .i64] 4, .tmp 5], c8_0⟩
theorem ok8 : OkFun Try.prog 8 a8 := ⟨Try.f8, Try.f8.body.getD .skip, Try.func8, by kernel_rfl, by kernel_rfl, by kernel_rfl, by kernel_rfl, by kernel_rfl⟩
/-! #### diff.Where -/
def o9_1 : List AOper := [⟨some 2, .box (.tmp 0), none⟩,
  ⟨some 3, .box (.tmp 1), none⟩,
  ⟨some 4, .mv (.const (.slice none 0 0)), none⟩]
def o9_4 : List AOper := [⟨some 8, .load true [.int .i64, .int .i64, .slice] (.tmp 2), none⟩,
  ⟨some 9, .load true [.int .i64, .int .i64, .slice] (.tmp 3), none⟩,
  ⟨some 10, .call false (.func 20) [.tmp 8, .tmp 9] [(false, [.bool])] true, none⟩,
  ⟨some 11, .un .not (.tmp 10), none⟩]
def o9_7 : List AOper := [⟨some 4, .mv (.const (.slice none 0 0)), none⟩]
def o9_11 : List AOper := [⟨some 5, .alloc [.slice none 0 0], none⟩]
def o9_14 : List AOper := [⟨some 12, .load true [.int .i64, .int .i64, .slice] (.tmp 2), none⟩,
  ⟨some 13, .load true [.int .i64, .int .i64, .slice] (.tmp 3), none⟩,
  ⟨some 14, .call false (.func 21) [.tmp 12, .tmp 13] [(false, [.any])] true, none⟩]
def o9_18 : List AOper := [⟨some 6, .mv (.tmp 15), none⟩]
def o9_19 : List AOper := [⟨some 7, .alloc [.int .i64 0, .int .i64 0, .int .i64 0, .int .i64 0, .int .i64 0, .int .i64 0], none⟩,
  ⟨none, .store 6 (.tmp 7) (.tmp 16), none⟩]
def o9_22 : List AOper := [⟨some 17, .fieldAddr 0 (.tmp 7), none⟩,
  ⟨some 18, .load true [.int .i64, .int .i64, .int .i64] (.tmp 17), none⟩,
  ⟨some 19, .fieldAddr 3 (.tmp 7), none⟩,
  ⟨some 20, .load true [.int .i64, .int .i64, .int .i64] (.tmp 19), none⟩,
  ⟨some 21, .eqAgg [.int .i64, .int .i64, .int .i64] true (.tmp 18) (.tmp 20), none⟩]
def o9_24 : List AOper := [⟨some 22, .load false [.slice] (.tmp 5), none⟩,
  ⟨some 23, .mv (.tmp 6), none⟩,
  ⟨some 24, .buildSlice 1 1 [.int .i64 0] [(0, 1, .tmp 23)], none⟩,
  ⟨some 25, .append 1 8 (.tmp 22) (.tmp 24), none⟩,
  ⟨none, .store 1 (.tmp 5) (.tmp 25), none⟩]
def b9_16 : ACode := .block 1 (.seq (.ops o9_22) (.cond (.tmp 21) (.ops o9_24) (.skip)))
def o9_27 : List AOper := [⟨some 26, .load false [.slice] (.tmp 5), none⟩,
  ⟨some 4, .mv (.tmp 26), none⟩]
def c9_26 : ACode := .seq (.ops o9_27) (.ret)
def c9_0 : ACode := .seq (.ops o9_1) (.seq (.seq (.ops o9_4) (.cond (.tmp 11) (.seq (.ops o9_7) (.ret)) (.skip))) (.seq (.ops o9_11) (.seq (.seq (.ops o9_14) (.block 0 (.clear [0, 1, 2, 3, 6, 7, 8, 9, 10, 11, 12, 13, 17, 18, 19, 20, 21, 22, 23, 24, 25, 26] (.rangeFunc (.tmp 14) [15, 16] (.seq (.ops o9_18) (.ops o9_19)) b9_16)))) (.clear [0, 1, 2, 3, 4, 6, 7, 8, 9, 10, 11, 12, 13, 14, 15, 16, 17, 18, 19, 20, 21, 22, 23, 24, 25, 26] c9_26))))
def a9 : AFun := ⟨27, [.tmp 4], c9_0⟩
theorem ok9 : OkFun Try.prog 9 a9 := ⟨Try.f9, Try.f9.body.getD .skip, Try.func9, by kernel_rfl, by kernel_rfl, by kernel_rfl, by kernel_rfl, by kernel_rfl⟩
/-! #### skylightref49.Where -/
def o10_1 : List AOper := [⟨some 2, .box (.tmp 0), none⟩,
  ⟨some 3, .box (.tmp 1), none⟩,
  ⟨some 4, .mv (.const (.slice none 0 0)), none⟩]
def o10_3 : List AOper := [⟨some 5, .mv (.const (.slice none 0 0)), none⟩]
def o10_6 : List AOper := [⟨some 6, .mv (.const (.int .i64 0)), none⟩]
def o10_11 : List AOper := [⟨some 7, .mv (.tmp 6), none⟩,
  ⟨some 8, .fieldAddr 2 (.tmp 2), none⟩,
  ⟨some 9, .load false [.slice] (.tmp 8), none⟩,
  ⟨some 10, .len (.tmp 9), none⟩,
  ⟨some 11, .bin .lss (.tmp 7) (.tmp 10), none⟩,
  ⟨some 12, .mv (.tmp 11), none⟩,
  ⟨some 13, .load true [.int .i64, .int .i64, .slice] (.tmp 2), some (12, true)⟩,
  ⟨some 14, .load true [.int .i64, .int .i64, .slice] (.tmp 3), some (12, true)⟩,
  ⟨some 15, .call false (.func 19) [.tmp 13, .tmp 14] [(false, [.bool])] true, some (12, true)⟩,
  ⟨some 16, .pick (.tmp 12) (.tmp 15) (.const (.bool false)), none⟩]
def o10_18 : List (AOper × Option Nat) := [(⟨some 19, .fieldAddr 2 (.tmp 2), none⟩, none),
  (⟨some 20, .load false [.slice] (.tmp 19), none⟩, none),
  (⟨some 21, .mv (.tmp 6), none⟩, none),
  (⟨some 22, .indexAddr 3 (.tmp 20) (.tmp 21), none⟩, none),
  (⟨some 23, .load true [.int .i64, .int .i64, .int .i64] (.tmp 22), none⟩, none),
  (⟨some 24, .fieldAddr 2 (.tmp 3), none⟩, none),
  (⟨some 25, .load false [.slice] (.tmp 24), none⟩, none),
  (⟨some 26, .mv (.tmp 6), none⟩, none),
  (⟨some 27, .indexAddr 3 (.tmp 25) (.tmp 26), none⟩, none),
  (⟨some 28, .load true [.int .i64, .int .i64, .int .i64] (.tmp 27), none⟩, none),
  (⟨some 29, .eqAgg [.int .i64, .int .i64, .int .i64] true (.tmp 23) (.tmp 28), none⟩, none)]
def o10_20 : List AOper := [⟨some 30, .mv (.tmp 5), none⟩,
  ⟨some 31, .mv (.tmp 6), none⟩,
  ⟨some 32, .buildSlice 1 1 [.int .i64 0] [(0, 1, .tmp 31)], none⟩,
  ⟨some 33, .append 1 8 (.tmp 30) (.tmp 32), none⟩,
  ⟨some 5, .mv (.tmp 33), none⟩]
def o10_22 : List AOper := [⟨some 17, .mv (.tmp 6), none⟩,
  ⟨some 18, .bin .add (.tmp 17) (.const (.int .i64 1)), none⟩,
  ⟨some 6, .mv (.tmp 18), none⟩]
def c10_22 : ACode := .ops o10_22
def b10_8 : ACode := .post (.seq (.seq (.ops o10_11) (.cond (.tmp 16) (.skip) (.exit 0))) (.seq (.block 1 (.seq (.draw [] 0 o10_18 []) (.cond (.tmp 29) (.ops o10_20) (.skip)))) (.clear [0, 1, 4, 7, 8, 9, 10, 11, 12, 13, 14, 15, 16, 17, 18, 19, 20, 21, 22, 23, 24, 25, 26, 27, 28, 29, 30, 31, 32, 33, 34] c10_22))) [0, 1, 4, 7, 8, 9, 10, 11, 12, 13, 14, 15, 16, 17, 18, 19, 20, 21, 22, 23, 24, 25, 26, 27, 28, 29, 30, 31, 32, 33, 34]
def o10_24 : List AOper := [⟨some 34, .mv (.tmp 5), none⟩,
  ⟨some 4, .mv (.tmp 34), none⟩]
def c10_23 : ACode := .seq (.ops o10_24) (.ret)
def c10_0 : ACode := .seq (.ops o10_1) (.seq (.ops o10_3) (.seq (.seq (.ops o10_6) (.block 0 (.clear [0, 1, 4, 7, 8, 9, 10, 11, 12, 13, 14, 15, 16, 17, 18, 19, 20, 21, 22, 23, 24, 25, 26, 27, 28, 29, 30, 31, 32, 33, 34] (.loop b10_8)))) (.clear [0, 1, 2, 3, 4, 6, 7, 8, 9, 10, 11, 12, 13, 14, 15, 16, 17, 18, 19, 20, 21, 22, 23, 24, 25, 26, 27, 28, 29, 30, 31, 32, 33, 34] c10_23)))
def a10 : AFun := ⟨35, [.tmp 4], c10_0⟩
theorem ok10 : OkFun Try.prog 10 a10 := ⟨Try.f10, Try.f10.body.getD .skip, Try.func10, by kernel_rfl, by kernel_rfl, by kernel_rfl, by kernel_rfl, by kernel_rfl⟩
/-! #### diff.Apply -/
def o11_1 : List AOper := [⟨some 3, .box (.tmp 0), none⟩,
  ⟨some 5, .box (.tmp 2), none⟩,
  ⟨some 6, .alloc [.int .i64 0, .int .i64 0, .slice none 0 0], none⟩,
  ⟨some 7, .mv (.const (.bool false)), none⟩]
def o11_4 : List AOper := [⟨some 11, .load true [.int .i64, .int .i64, .slice] (.tmp 3), none⟩,
  ⟨some 12, .load true [.int .i64, .int .i64, .slice] (.tmp 5), none⟩,
  ⟨some 13, .call false (.func 20) [.tmp 11, .tmp 12] [(false, [.bool])] true, none⟩,
  ⟨some 14, .un .not (.tmp 13), none⟩]
def o11_7 : List AOper := [⟨some 15, .build [.int .i64 0, .int .i64 0, .slice none 0 0] [], none⟩,
  ⟨none, .store 3 (.tmp 6) (.tmp 15), none⟩,
  ⟨some 7, .mv (.const (.bool false)), none⟩]
def o11_11 : List (AOper × Option Nat) := [(⟨some 16, .fieldAddr 0 (.tmp 3), none⟩, none),
  (⟨some 17, .load false [.int .i64] (.tmp 16), none⟩, none),
  (⟨some 18, .fieldAddr 1 (.tmp 3), none⟩, none),
  (⟨some 19, .load false [.int .i64] (.tmp 18), none⟩, none),
  (⟨some 20, .fieldAddr 2 (.tmp 3), none⟩, none),
  (⟨some 21, .load false [.slice] (.tmp 20), none⟩, none),
  (⟨some 22, .call false (.func 22) [.tmp 21] [(false, [.slice])] true, none⟩, none),
  (⟨some 23, .build [.int .i64 0, .int .i64 0, .slice none 0 0] [(0, 1, .tmp 17), (1, 1, .tmp 19), (2, 1, .tmp 22)], none⟩, none),
  (⟨some 8, .nilCheck (.tmp 8), none⟩, none),
  (⟨none, .store 3 (.tmp 8) (.tmp 23), none⟩, none)]
def f11_11 : List AOper := [⟨some 8, .alloc [.int .i64 0, .int .i64 0, .slice none 0 0], none⟩]
def o11_14 : List AOper := [⟨some 24, .mv (.tmp 1), none⟩,
  ⟨some 25, .len (.tmp 24), none⟩,
  ⟨some 26, .mv (.const (.int .i64 0)), none⟩]
def o11_18 : List AOper := [⟨some 27, .bin .lss (.tmp 26) (.tmp 25), none⟩]
def o11_26 : List AOper := [⟨some 28, .indexAddr 1 (.tmp 24) (.tmp 26), none⟩,
  ⟨some 29, .load false [.int .i64] (.tmp 28), none⟩,
  ⟨some 10, .mv (.tmp 29), none⟩]
def o11_28 : List AOper := [⟨some 30, .mv (.tmp 10), none⟩,
  ⟨some 31, .bin .geq (.tmp 30) (.const (.int .i64 0)), none⟩,
  ⟨some 32, .mv (.tmp 31), none⟩,
  ⟨some 33, .mv (.tmp 10), some (32, true)⟩,
  ⟨some 34, .fieldAddr 2 (.tmp 5), some (32, true)⟩,
  ⟨some 35, .load false [.slice] (.tmp 34), some (32, true)⟩,
  ⟨some 36, .len (.tmp 35), some (32, true)⟩,
  ⟨some 37, .bin .lss (.tmp 33) (.tmp 36), some (32, true)⟩,
  ⟨some 38, .pick (.tmp 32) (.tmp 37) (.const (.bool false)), none⟩]
def o11_30 : List (AOper × Option Nat) := [(⟨some 39, .fieldAddr 2 (.tmp 8), none⟩, none),
  (⟨some 40, .load false [.slice] (.tmp 39), none⟩, none),
  (⟨some 41, .mv (.tmp 10), none⟩, none),
  (⟨some 42, .fieldAddr 2 (.tmp 5), none⟩, none),
  (⟨some 43, .load false [.slice] (.tmp 42), none⟩, none),
  (⟨some 44, .mv (.tmp 10), none⟩, none),
  (⟨some 45, .indexAddr 3 (.tmp 43) (.tmp 44), none⟩, none),
  (⟨some 46, .load true [.int .i64, .int .i64, .int .i64] (.tmp 45), none⟩, none),
  (⟨some 47, .indexAddr 3 (.tmp 40) (.tmp 41), none⟩, none),
  (⟨none, .store 3 (.tmp 47) (.tmp 46), none⟩, none)]
def o11_32 : List AOper := [⟨some 48, .bin .add (.tmp 26) (.const (.int .i64 1)), none⟩,
  ⟨some 26, .mv (.tmp 48), none⟩]
def c11_32 : ACode := .ops o11_32
def b11_16 : ACode := .post (.seq (.ops o11_18) (.seq (.cond (.tmp 27) (.skip) (.exit 0)) (.seq (.block 1 (.seq (.ops o11_26) (.seq (.ops o11_28) (.cond (.tmp 38) (.draw [] 0 o11_30 []) (.skip))))) (.clear [0, 1, 2, 3, 4, 7, 9, 10, 11, 12, 13, 14, 15, 16, 17, 18, 19, 20, 21, 22, 23, 27, 28, 29, 30, 31, 32, 33, 34, 35, 36, 37, 38, 39, 40, 41, 42, 43, 44, 45, 46, 47, 48, 49] c11_32)))) [0, 1, 2, 3, 4, 7, 9, 10, 11, 12, 13, 14, 15, 16, 17, 18, 19, 20, 21, 22, 23, 27, 28, 29, 30, 31, 32, 33, 34, 35, 36, 37, 38, 39, 40, 41, 42, 43, 44, 45, 46, 47, 48, 49]
def o11_34 : List AOper := [⟨some 49, .load true [.int .i64, .int .i64, .slice] (.tmp 8), none⟩,
  ⟨none, .store 3 (.tmp 6) (.tmp 49), none⟩,
  ⟨some 7, .mv (.const (.bool true)), none⟩]
def c11_33 : ACode := .seq (.ops o11_34) (.ret)
def c11_0 : ACode := .seq (.ops o11_1) (.seq (.seq (.ops o11_4) (.cond (.tmp 14) (.seq (.ops o11_7) (.ret)) (.skip))) (.seq (.draw f11_11 0 o11_11 [(1, 6), (3, 6), (8, 6)]) (.seq (.seq (.ops o11_14) (.block 0 (.clear [0, 1, 2, 3, 4, 7, 9, 10, 11, 12, 13, 14, 15, 16, 17, 18, 19, 20, 21, 22, 23, 27, 28, 29, 30, 31, 32, 33, 34, 35, 36, 37, 38, 39, 40, 41, 42, 43, 44, 45, 46, 47, 48, 49] (.loop b11_16)))) (.clear [0, 1, 2, 3, 4, 5, 7, 9, 10, 11, 12, 13, 14, 15, 16, 17, 18, 19, 20, 21, 22, 23, 24, 25, 26, 27, 28, 29, 30, 31, 32, 33, 34, 35, 36, 37, 38, 39, 40, 41, 42, 43, 44, 45, 46, 47, 48, 49] c11_33))))
def a11 : AFun := ⟨50, [.cell true [.int .i64, .int .i64, .slice] 6, .tmp 7], c11_0⟩
theorem ok11 : OkFun Try.prog 11 a11 := ⟨Try.f11, Try.f11.body.getD .skip, Try.func11, by kernel_rfl, by kernel_rfl, by kernel_rfl, by kernel_rfl, by kernel_rfl⟩
/-! #### skylightref49.Apply -/
def o12_1 : List AOper := [⟨some 3, .box (.tmp 0), none⟩,
  ⟨some 5, .box (.tmp 2), none⟩,
  ⟨some 6, .alloc [.int .i64 0, .int .i64 0, .slice none 0 0], none⟩,
  ⟨some 7, .mv (.const (.bool false)), none⟩]
def o12_4 : List AOper := [⟨some 12, .load true [.int .i64, .int .i64, .slice] (.tmp 3), none⟩,
  ⟨some 13, .load true [.int .i64, .int .i64, .slice] (.tmp 5), none⟩,
  ⟨some 14, .call false (.func 19) [.tmp 12, .tmp 13] [(false, [.bool])] true, none⟩,
  ⟨some 15, .un .not (.tmp 14), none⟩]
def o12_7 : List AOper := [⟨some 16, .build [.int .i64 0, .int .i64 0, .slice none 0 0] [], none⟩,
  ⟨none, .store 3 (.tmp 6) (.tmp 16), none⟩,
  ⟨some 7, .mv (.const (.bool false)), none⟩]
def o12_11 : List AOper := [⟨some 17, .fieldAddr 0 (.tmp 3), none⟩,
  ⟨some 18, .load false [.int .i64] (.tmp 17), none⟩,
  ⟨some 19, .fieldAddr 1 (.tmp 3), none⟩,
  ⟨some 20, .load false [.int .i64] (.tmp 19), none⟩,
  ⟨some 21, .build [.int .i64 0, .int .i64 0, .slice none 0 0] [(0, 1, .tmp 18), (1, 1, .tmp 20)], none⟩,
  ⟨some 8, .alloc [.int .i64 0, .int .i64 0, .slice none 0 0], none⟩,
  ⟨none, .store 3 (.tmp 8) (.tmp 21), none⟩]
def o12_14 : List AOper := [⟨some 9, .mv (.const (.int .i64 0)), none⟩]
def o12_19 : List AOper := [⟨some 22, .mv (.tmp 9), none⟩,
  ⟨some 23, .fieldAddr 2 (.tmp 3), none⟩,
  ⟨some 24, .load false [.slice] (.tmp 23), none⟩,
  ⟨some 25, .len (.tmp 24), none⟩,
  ⟨some 26, .bin .lss (.tmp 22) (.tmp 25), none⟩]
def o12_26 : List AOper := [⟨some 29, .fieldAddr 2 (.tmp 3), none⟩,
  ⟨some 30, .load false [.slice] (.tmp 29), none⟩,
  ⟨some 31, .mv (.tmp 9), none⟩,
  ⟨some 32, .indexAddr 3 (.tmp 30) (.tmp 31), none⟩,
  ⟨some 33, .load true [.int .i64, .int .i64, .int .i64] (.tmp 32), none⟩,
  ⟨some 10, .alloc [.int .i64 0, .int .i64 0, .int .i64 0], none⟩,
  ⟨none, .store 3 (.tmp 10) (.tmp 33), none⟩]
def o12_29 : List AOper := [⟨some 11, .mv (.const (.int .i64 0)), none⟩]
def o12_34 : List AOper := [⟨some 34, .mv (.tmp 11), none⟩,
  ⟨some 35, .mv (.tmp 1), none⟩,
  ⟨some 36, .len (.tmp 35), none⟩,
  ⟨some 37, .bin .lss (.tmp 34) (.tmp 36), none⟩]
def o12_41 : List AOper := [⟨some 40, .mv (.tmp 1), none⟩,
  ⟨some 41, .mv (.tmp 11), none⟩,
  ⟨some 42, .indexAddr 1 (.tmp 40) (.tmp 41), none⟩,
  ⟨some 43, .load false [.int .i64] (.tmp 42), none⟩,
  ⟨some 44, .mv (.tmp 9), none⟩,
  ⟨some 45, .bin .eql (.tmp 43) (.tmp 44), none⟩]
def o12_43 : List AOper := [⟨some 46, .fieldAddr 2 (.tmp 5), none⟩,
  ⟨some 47, .load false [.slice] (.tmp 46), none⟩,
  ⟨some 48, .mv (.tmp 9), none⟩,
  ⟨some 49, .indexAddr 3 (.tmp 47) (.tmp 48), none⟩,
  ⟨some 50, .load true [.int .i64, .int .i64, .int .i64] (.tmp 49), none⟩,
  ⟨none, .store 3 (.tmp 10) (.tmp 50), none⟩]
def o12_45 : List AOper := [⟨some 38, .mv (.tmp 11), none⟩,
  ⟨some 39, .bin .add (.tmp 38) (.const (.int .i64 1)), none⟩,
  ⟨some 11, .mv (.tmp 39), none⟩]
def c12_45 : ACode := .ops o12_45
def b12_31 : ACode := .post (.seq (.seq (.ops o12_34) (.cond (.tmp 37) (.skip) (.exit 2))) (.seq (.block 3 (.seq (.ops o12_41) (.cond (.tmp 45) (.ops o12_43) (.skip)))) (.clear [0, 2, 4, 7, 12, 13, 14, 15, 16, 17, 18, 19, 20, 21, 22, 23, 24, 25, 26, 27, 28, 29, 30, 31, 32, 33, 34, 35, 36, 37, 38, 39, 40, 41, 42, 43, 44, 45, 46, 47, 48, 49, 50, 51, 52, 53, 54, 55, 56, 57] c12_45))) [0, 2, 4, 7, 12, 13, 14, 15, 16, 17, 18, 19, 20, 21, 22, 23, 24, 25, 26, 27, 28, 29, 30, 31, 32, 33, 34, 35, 36, 37, 38, 39, 40, 41, 42, 43, 44, 45, 46, 47, 48, 49, 50, 51, 52, 53, 54, 55, 56, 57]
def o12_46 : List AOper := [⟨some 51, .fieldAddr 2 (.tmp 8), none⟩,
  ⟨some 52, .load false [.slice] (.tmp 51), none⟩,
  ⟨some 53, .load true [.int .i64, .int .i64, .int .i64] (.tmp 10), none⟩,
  ⟨some 54, .buildSlice 3 1 [.int .i64 0, .int .i64 0, .int .i64 0] [(0, 3, .tmp 53)], none⟩,
  ⟨some 55, .append 3 24 (.tmp 52) (.tmp 54), none⟩,
  ⟨some 56, .fieldAddr 2 (.tmp 8), none⟩,
  ⟨none, .store 1 (.tmp 56) (.tmp 55), none⟩]
def c12_46 : ACode := .ops o12_46
def o12_47 : List AOper := [⟨some 27, .mv (.tmp 9), none⟩,
  ⟨some 28, .bin .add (.tmp 27) (.const (.int .i64 1)), none⟩,
  ⟨some 9, .mv (.tmp 28), none⟩]
def c12_47 : ACode := .ops o12_47
def b12_16 : ACode := .post (.seq (.seq (.ops o12_19) (.cond (.tmp 26) (.skip) (.exit 0))) (.seq (.block 1 (.seq (.ops o12_26) (.seq (.seq (.ops o12_29) (.block 2 (.clear [0, 2, 4, 7, 12, 13, 14, 15, 16, 17, 18, 19, 20, 21, 22, 23, 24, 25, 26, 27, 28, 29, 30, 31, 32, 33, 34, 35, 36, 37, 38, 39, 40, 41, 42, 43, 44, 45, 46, 47, 48, 49, 50, 51, 52, 53, 54, 55, 56, 57] (.loop b12_31)))) (.clear [0, 2, 4, 7, 11, 12, 13, 14, 15, 16, 17, 18, 19, 20, 21, 22, 23, 24, 25, 26, 27, 28, 29, 30, 31, 32, 33, 34, 35, 36, 37, 38, 39, 40, 41, 42, 43, 44, 45, 46, 47, 48, 49, 50, 51, 52, 53, 54, 55, 56, 57] c12_46)))) (.clear [0, 2, 4, 7, 10, 11, 12, 13, 14, 15, 16, 17, 18, 19, 20, 21, 22, 23, 24, 25, 26, 27, 28, 29, 30, 31, 32, 33, 34, 35, 36, 37, 38, 39, 40, 41, 42, 43, 44, 45, 46, 47, 48, 49, 50, 51, 52, 53, 54, 55, 56, 57] c12_47))) [0, 2, 4, 7, 10, 11, 12, 13, 14, 15, 16, 17, 18, 19, 20, 21, 22, 23, 24, 25, 26, 27, 28, 29, 30, 31, 32, 33, 34, 35, 36, 37, 38, 39, 40, 41, 42, 43, 44, 45, 46, 47, 48, 49, 50, 51, 52, 53, 54, 55, 56, 57]
def o12_49 : List AOper := [⟨some 57, .load true [.int .i64, .int .i64, .slice] (.tmp 8), none⟩,
  ⟨none, .store 3 (.tmp 6) (.tmp 57), none⟩,
  ⟨some 7, .mv (.const (.bool true)), none⟩]
def c12_48 : ACode := .seq (.ops o12_49) (.ret)
def c12_0 : ACode := .seq (.ops o12_1) (.seq (.seq (.ops o12_4) (.cond (.tmp 15) (.seq (.ops o12_7) (.ret)) (.skip))) (.seq (.ops o12_11) (.seq (.seq (.ops o12_14) (.block 0 (.clear [0, 2, 4, 7, 10, 11, 12, 13, 14, 15, 16, 17, 18, 19, 20, 21, 22, 23, 24, 25, 26, 27, 28, 29, 30, 31, 32, 33, 34, 35, 36, 37, 38, 39, 40, 41, 42, 43, 44, 45, 46, 47, 48, 49, 50, 51, 52, 53, 54, 55, 56, 57] (.loop b12_16)))) (.clear [0, 1, 2, 3, 4, 5, 7, 9, 10, 11, 12, 13, 14, 15, 16, 17, 18, 19, 20, 21, 22, 23, 24, 25, 26, 27, 28, 29, 30, 31, 32, 33, 34, 35, 36, 37, 38, 39, 40, 41, 42, 43, 44, 45, 46, 47, 48, 49, 50, 51, 52, 53, 54, 55, 56, 57] c12_48))))
def a12 : AFun := ⟨58, [.cell true [.int .i64, .int .i64, .slice] 6, .tmp 7], c12_0⟩
theorem ok12 : OkFun Try.prog 12 a12 := ⟨Try.f12, Try.f12.body.getD .skip, Try.func12, by kernel_rfl, by kernel_rfl, by kernel_rfl, by kernel_rfl, by kernel_rfl⟩
/-! #### diff.Mix -/
def o13_1 : List AOper := [⟨some 3, .box (.tmp 0), none⟩,
  ⟨some 4, .box (.tmp 1), none⟩,
  ⟨some 5, .box (.tmp 2), none⟩,
  ⟨some 6, .alloc [.int .i64 0, .int .i64 0, .slice none 0 0], none⟩,
  ⟨some 7, .mv (.const (.bool false)), none⟩]
def o13_4 : List AOper := [⟨some 13, .load true [.int .i64, .int .i64, .slice] (.tmp 3), none⟩,
  ⟨some 14, .load true [.int .i64, .int .i64, .slice] (.tmp 4), none⟩,
  ⟨some 15, .call false (.func 20) [.tmp 13, .tmp 14] [(false, [.bool])] true, none⟩,
  ⟨some 16, .un .not (.tmp 15), none⟩,
  ⟨some 17, .mv (.tmp 16), none⟩,
  ⟨some 18, .load false [.int .i64] (.tmp 5), some (17, false)⟩,
  ⟨some 19, .bin .lss (.tmp 18) (.const (.int .i64 0)), some (17, false)⟩,
  ⟨some 20, .pick (.tmp 17) (.const (.bool true)) (.tmp 19), none⟩,
  ⟨some 21, .mv (.tmp 20), none⟩,
  ⟨some 22, .load false [.int .i64] (.tmp 5), some (21, false)⟩,
  ⟨some 23, .bin .gtr (.tmp 22) (.const (.int .i64 1000)), some (21, false)⟩,
  ⟨some 24, .pick (.tmp 21) (.const (.bool true)) (.tmp 23), none⟩]
def o13_7 : List AOper := [⟨some 25, .build [.int .i64 0, .int .i64 0, .slice none 0 0] [], none⟩,
  ⟨none, .store 3 (.tmp 6) (.tmp 25), none⟩,
  ⟨some 7, .mv (.const (.bool false)), none⟩]
def o13_11 : List (AOper × Option Nat) := [(⟨some 26, .fieldAddr 0 (.tmp 3), none⟩, none),
  (⟨some 27, .load false [.int .i64] (.tmp 26), none⟩, none),
  (⟨some 28, .fieldAddr 1 (.tmp 3), none⟩, none),
  (⟨some 29, .load false [.int .i64] (.tmp 28), none⟩, none),
  (⟨some 30, .fieldAddr 2 (.tmp 3), none⟩, none),
  (⟨some 31, .load false [.slice] (.tmp 30), none⟩, none),
  (⟨some 32, .len (.tmp 31), none⟩, none),
  (⟨some 33, .makeSlice 3 24 [.int .i64 0, .int .i64 0, .int .i64 0] (.tmp 32) (.tmp 32), none⟩, none),
  (⟨some 34, .build [.int .i64 0, .int .i64 0, .slice none 0 0] [(0, 1, .tmp 27), (1, 1, .tmp 29), (2, 1, .tmp 33)], none⟩, none),
  (⟨some 8, .nilCheck (.tmp 8), none⟩, none),
  (⟨none, .store 3 (.tmp 8) (.tmp 34), none⟩, none)]
def f13_11 : List AOper := [⟨some 8, .alloc [.int .i64 0, .int .i64 0, .slice none 0 0], none⟩]
def o13_14 : List AOper := [⟨some 35, .load true [.int .i64, .int .i64, .slice] (.tmp 3), none⟩,
  ⟨some 36, .load true [.int .i64, .int .i64, .slice] (.tmp 4), none⟩,
  ⟨some 37, .call false (.func 21) [.tmp 35, .tmp 36] [(false, [.any])] true, none⟩]
def o13_18 : List AOper := [⟨some 9, .mv (.tmp 38), none⟩]
def o13_19 : List AOper := [⟨some 10, .alloc [.int .i64 0, .int .i64 0, .int .i64 0, .int .i64 0, .int .i64 0, .int .i64 0], none⟩,
  ⟨none, .store 6 (.tmp 10) (.tmp 39), none⟩]
def o13_22 : List AOper := [⟨some 40, .fieldAddr 0 (.tmp 10), none⟩,
  ⟨some 41, .load true [.int .i64, .int .i64, .int .i64] (.tmp 40), none⟩,
  ⟨some 42, .mv (.const (.int .i64 0)), none⟩]
def o13_26 : List AOper := [⟨some 43, .bin .lss (.tmp 42) (.const (.int .i64 3)), none⟩]
def o13_34 : List AOper := [⟨some 44, .mv (.tmp 42), none⟩,
  ⟨some 45, .index false 3 1 (.tmp 41) (.tmp 42), none⟩,
  ⟨some 11, .mv (.tmp 44), none⟩,
  ⟨some 12, .mv (.tmp 45), none⟩]
def o13_35 : List (AOper × Option Nat) := [(⟨some 46, .fieldAddr 2 (.tmp 8), none⟩, none),
  (⟨some 47, .load false [.slice] (.tmp 46), none⟩, none),
  (⟨some 48, .mv (.tmp 9), none⟩, none),
  (⟨some 49, .mv (.tmp 11), none⟩, none),
  (⟨some 50, .mv (.tmp 12), none⟩, none),
  (⟨some 51, .load false [.int .i64] (.tmp 5), none⟩, none),
  (⟨some 52, .bin .sub (.const (.int .i64 1000)) (.tmp 51), none⟩, none),
  (⟨some 53, .bin .mul (.tmp 50) (.tmp 52), none⟩, none),
  (⟨some 54, .mv (.tmp 11), none⟩, none),
  (⟨some 55, .fieldAddr 3 (.tmp 10), none⟩, none),
  (⟨some 56, .indexArr 3 1 (.tmp 55) (.tmp 54), none⟩, none),
  (⟨some 57, .load false [.int .i64] (.tmp 56), none⟩, none),
  (⟨some 58, .load false [.int .i64] (.tmp 5), none⟩, none),
  (⟨some 59, .bin .mul (.tmp 57) (.tmp 58), none⟩, none),
  (⟨some 60, .bin .add (.tmp 53) (.tmp 59), none⟩, none),
  (⟨some 61, .bin .quo (.tmp 60) (.const (.int .i64 1000)), none⟩, none),
  (⟨some 62, .indexAddr 3 (.tmp 47) (.tmp 48), none⟩, none),
  (⟨some 63, .indexArr 3 1 (.tmp 62) (.tmp 49), none⟩, none),
  (⟨none, .store 1 (.tmp 63) (.tmp 61), none⟩, none)]
def o13_36 : List AOper := [⟨some 64, .bin .add (.tmp 42) (.const (.int .i64 1)), none⟩,
  ⟨some 42, .mv (.tmp 64), none⟩]
def c13_36 : ACode := .ops o13_36
def b13_24 : ACode := .post (.seq (.ops o13_26) (.seq (.cond (.tmp 43) (.skip) (.exit 2)) (.seq (.block 3 (.seq (.ops o13_34) (.draw [] 0 o13_35 []))) (.clear [0, 1, 2, 3, 4, 6, 7, 11, 12, 13, 14, 15, 16, 17, 18, 19, 20, 21, 22, 23, 24, 25, 26, 27, 28, 29, 30, 31, 32, 33, 34, 35, 36, 37, 38, 39, 40, 43, 44, 45, 46, 47, 48, 49, 50, 51, 52, 53, 54, 55, 56, 57, 58, 59, 60, 61, 62, 63, 64, 65] c13_36)))) [0, 1, 2, 3, 4, 6, 7, 11, 12, 13, 14, 15, 16, 17, 18, 19, 20, 21, 22, 23, 24, 25, 26, 27, 28, 29, 30, 31, 32, 33, 34, 35, 36, 37, 38, 39, 40, 43, 44, 45, 46, 47, 48, 49, 50, 51, 52, 53, 54, 55, 56, 57, 58, 59, 60, 61, 62, 63, 64, 65]
def b13_16 : ACode := .block 1 (.seq (.ops o13_22) (.block 2 (.clear [0, 1, 2, 3, 4, 6, 7, 11, 12, 13, 14, 15, 16, 17, 18, 19, 20, 21, 22, 23, 24, 25, 26, 27, 28, 29, 30, 31, 32, 33, 34, 35, 36, 37, 38, 39, 40, 43, 44, 45, 46, 47, 48, 49, 50, 51, 52, 53, 54, 55, 56, 57, 58, 59, 60, 61, 62, 63, 64, 65] (.loop b13_24))))
def o13_38 : List AOper := [⟨some 65, .load true [.int .i64, .int .i64, .slice] (.tmp 8), none⟩,
  ⟨none, .store 3 (.tmp 6) (.tmp 65), none⟩,
  ⟨some 7, .mv (.const (.bool true)), none⟩]
def c13_37 : ACode := .seq (.ops o13_38) (.ret)
def c13_0 : ACode := .seq (.ops o13_1) (.seq (.seq (.ops o13_4) (.cond (.tmp 24) (.seq (.ops o13_7) (.ret)) (.skip))) (.seq (.draw f13_11 0 o13_11 [(1, 7), (3, 7), (9, 7)]) (.seq (.seq (.ops o13_14) (.block 0 (.clear [0, 1, 2, 3, 4, 9, 10, 11, 12, 13, 14, 15, 16, 17, 18, 19, 20, 21, 22, 23, 24, 25, 26, 27, 28, 29, 30, 31, 32, 33, 34, 35, 36, 40, 41, 42, 43, 44, 45, 46, 47, 48, 49, 50, 51, 52, 53, 54, 55, 56, 57, 58, 59, 60, 61, 62, 63, 64, 65] (.rangeFunc (.tmp 37) [38, 39] (.seq (.ops o13_18) (.ops o13_19)) b13_16)))) (.clear [0, 1, 2, 3, 4, 5, 7, 9, 10, 11, 12, 13, 14, 15, 16, 17, 18, 19, 20, 21, 22, 23, 24, 25, 26, 27, 28, 29, 30, 31, 32, 33, 34, 35, 36, 37, 38, 39, 40, 41, 42, 43, 44, 45, 46, 47, 48, 49, 50, 51, 52, 53, 54, 55, 56, 57, 58, 59, 60, 61, 62, 63, 64, 65] c13_37))))
def a13 : AFun := ⟨66, [.cell true [.int .i64, .int .i64, .slice] 6, .tmp 7], c13_0⟩
theorem ok13 : OkFun Try.prog 13 a13 := ⟨Try.f13, Try.f13.body.getD .skip, Try.func13, by kernel_rfl, by kernel_rfl, by kernel_rfl, by kernel_rfl, by kernel_rfl⟩
/-! #### skylightref49.Mix -/
def o14_1 : List AOper := [⟨some 3, .box (.tmp 0), none⟩,
  ⟨some 4, .box (.tmp 1), none⟩,
  ⟨some 6, .alloc [.int .i64 0, .int .i64 0, .slice none 0 0], none⟩,
  ⟨some 7, .mv (.const (.bool false)), none⟩]
def o14_4 : List AOper := [⟨some 12, .load true [.int .i64, .int .i64, .slice] (.tmp 3), none⟩,
  ⟨some 13, .load true [.int .i64, .int .i64, .slice] (.tmp 4), none⟩,
  ⟨some 14, .call false (.func 19) [.tmp 12, .tmp 13] [(false, [.bool])] true, none⟩,
  ⟨some 15, .un .not (.tmp 14), none⟩,
  ⟨some 16, .mv (.tmp 15), none⟩,
  ⟨some 17, .mv (.tmp 2), some (16, false)⟩,
  ⟨some 18, .bin .lss (.tmp 17) (.const (.int .i64 0)), some (16, false)⟩,
  ⟨some 19, .pick (.tmp 16) (.const (.bool true)) (.tmp 18), none⟩,
  ⟨some 20, .mv (.tmp 19), none⟩,
  ⟨some 21, .mv (.tmp 2), some (20, false)⟩,
  ⟨some 22, .bin .gtr (.tmp 21) (.const (.int .i64 1000)), some (20, false)⟩,
  ⟨some 23, .pick (.tmp 20) (.const (.bool true)) (.tmp 22), none⟩]
def o14_7 : List AOper := [⟨some 24, .build [.int .i64 0, .int .i64 0, .slice none 0 0] [], none⟩,
  ⟨none, .store 3 (.tmp 6) (.tmp 24), none⟩,
  ⟨some 7, .mv (.const (.bool false)), none⟩]
def o14_11 : List AOper := [⟨some 25, .fieldAddr 0 (.tmp 3), none⟩,
  ⟨some 26, .load false [.int .i64] (.tmp 25), none⟩,
  ⟨some 27, .fieldAddr 1 (.tmp 3), none⟩,
  ⟨some 28, .load false [.int .i64] (.tmp 27), none⟩,
  ⟨some 29, .build [.int .i64 0, .int .i64 0, .slice none 0 0] [(0, 1, .tmp 26), (1, 1, .tmp 28)], none⟩,
  ⟨some 8, .alloc [.int .i64 0, .int .i64 0, .slice none 0 0], none⟩,
  ⟨none, .store 3 (.tmp 8) (.tmp 29), none⟩]
def o14_14 : List AOper := [⟨some 9, .mv (.const (.int .i64 0)), none⟩]
def o14_19 : List AOper := [⟨some 30, .mv (.tmp 9), none⟩,
  ⟨some 31, .fieldAddr 2 (.tmp 3), none⟩,
  ⟨some 32, .load false [.slice] (.tmp 31), none⟩,
  ⟨some 33, .len (.tmp 32), none⟩,
  ⟨some 34, .bin .lss (.tmp 30) (.tmp 33), none⟩]
def o14_26 : List AOper := [⟨some 10, .alloc [.int .i64 0, .int .i64 0, .int .i64 0], none⟩]
def o14_29 : List AOper := [⟨some 11, .mv (.const (.int .i64 0)), none⟩]
def o14_34 : List AOper := [⟨some 37, .mv (.tmp 11), none⟩,
  ⟨some 38, .bin .lss (.tmp 37) (.const (.int .i64 3)), none⟩]
def o14_40 : List (AOper × Option Nat) := [(⟨some 41, .mv (.tmp 11), none⟩, none),
  (⟨some 42, .fieldAddr 2 (.tmp 3), none⟩, none),
  (⟨some 43, .load false [.slice] (.tmp 42), none⟩, none),
  (⟨some 44, .mv (.tmp 9), none⟩, none),
  (⟨some 45, .mv (.tmp 11), none⟩, none),
  (⟨some 46, .indexAddr 3 (.tmp 43) (.tmp 44), none⟩, none),
  (⟨some 47, .indexArr 3 1 (.tmp 46) (.tmp 45), none⟩, none),
  (⟨some 48, .load false [.int .i64] (.tmp 47), none⟩, none),
  (⟨some 49, .mv (.tmp 2), none⟩, none),
  (⟨some 50, .bin .sub (.const (.int .i64 1000)) (.tmp 49), none⟩, none),
  (⟨some 51, .bin .mul (.tmp 48) (.tmp 50), none⟩, none),
  (⟨some 52, .fieldAddr 2 (.tmp 4), none⟩, none),
  (⟨some 53, .load false [.slice] (.tmp 52), none⟩, none),
  (⟨some 54, .mv (.tmp 9), none⟩, none),
  (⟨some 55, .mv (.tmp 11), none⟩, none),
  (⟨some 56, .indexAddr 3 (.tmp 53) (.tmp 54), none⟩, none),
  (⟨some 57, .indexArr 3 1 (.tmp 56) (.tmp 55), none⟩, none),
  (⟨some 58, .load false [.int .i64] (.tmp 57), none⟩, none),
  (⟨some 59, .mv (.tmp 2), none⟩, none),
  (⟨some 60, .bin .mul (.tmp 58) (.tmp 59), none⟩, none),
  (⟨some 61, .bin .add (.tmp 51) (.tmp 60), none⟩, none),
  (⟨some 62, .call true (.func 23) [.tmp 61, .const (.int .i64 1000)] [(false, [.int .i64])] true, none⟩, none),
  (⟨some 63, .indexArr 3 1 (.tmp 10) (.tmp 41), none⟩, none),
  (⟨none, .store 1 (.tmp 63) (.tmp 62), none⟩, none)]
def o14_41 : List AOper := [⟨some 39, .mv (.tmp 11), none⟩,
  ⟨some 40, .bin .add (.tmp 39) (.const (.int .i64 1)), none⟩,
  ⟨some 11, .mv (.tmp 40), none⟩]
def c14_41 : ACode := .ops o14_41
def b14_31 : ACode := .post (.seq (.seq (.ops o14_34) (.cond (.tmp 38) (.skip) (.exit 2))) (.seq (.block 3 (.draw [] 0 o14_40 [])) (.clear [0, 1, 5, 7, 12, 13, 14, 15, 16, 17, 18, 19, 20, 21, 22, 23, 24, 25, 26, 27, 28, 29, 30, 31, 32, 33, 34, 35, 36, 37, 38, 39, 40, 41, 42, 43, 44, 45, 46, 47, 48, 49, 50, 51, 52, 53, 54, 55, 56, 57, 58, 59, 60, 61, 62, 63, 64, 65, 66, 67, 68, 69, 70] c14_41))) [0, 1, 5, 7, 12, 13, 14, 15, 16, 17, 18, 19, 20, 21, 22, 23, 24, 25, 26, 27, 28, 29, 30, 31, 32, 33, 34, 35, 36, 37, 38, 39, 40, 41, 42, 43, 44, 45, 46, 47, 48, 49, 50, 51, 52, 53, 54, 55, 56, 57, 58, 59, 60, 61, 62, 63, 64, 65, 66, 67, 68, 69, 70]
def o14_42 : List AOper := [⟨some 64, .fieldAddr 2 (.tmp 8), none⟩,
  ⟨some 65, .load false [.slice] (.tmp 64), none⟩,
  ⟨some 66, .load true [.int .i64, .int .i64, .int .i64] (.tmp 10), none⟩,
  ⟨some 67, .buildSlice 3 1 [.int .i64 0, .int .i64 0, .int .i64 0] [(0, 3, .tmp 66)], none⟩,
  ⟨some 68, .append 3 24 (.tmp 65) (.tmp 67), none⟩,
  ⟨some 69, .fieldAddr 2 (.tmp 8), none⟩,
  ⟨none, .store 1 (.tmp 69) (.tmp 68), none⟩]
def c14_42 : ACode := .ops o14_42
def o14_43 : List AOper := [⟨some 35, .mv (.tmp 9), none⟩,
  ⟨some 36, .bin .add (.tmp 35) (.const (.int .i64 1)), none⟩,
  ⟨some 9, .mv (.tmp 36), none⟩]
def c14_43 : ACode := .ops o14_43
def b14_16 : ACode := .post (.seq (.seq (.ops o14_19) (.cond (.tmp 34) (.skip) (.exit 0))) (.seq (.block 1 (.seq (.ops o14_26) (.seq (.seq (.ops o14_29) (.block 2 (.clear [0, 1, 5, 7, 12, 13, 14, 15, 16, 17, 18, 19, 20, 21, 22, 23, 24, 25, 26, 27, 28, 29, 30, 31, 32, 33, 34, 35, 36, 37, 38, 39, 40, 41, 42, 43, 44, 45, 46, 47, 48, 49, 50, 51, 52, 53, 54, 55, 56, 57, 58, 59, 60, 61, 62, 63, 64, 65, 66, 67, 68, 69, 70] (.loop b14_31)))) (.clear [0, 1, 5, 7, 11, 12, 13, 14, 15, 16, 17, 18, 19, 20, 21, 22, 23, 24, 25, 26, 27, 28, 29, 30, 31, 32, 33, 34, 35, 36, 37, 38, 39, 40, 41, 42, 43, 44, 45, 46, 47, 48, 49, 50, 51, 52, 53, 54, 55, 56, 57, 58, 59, 60, 61, 62, 63, 64, 65, 66, 67, 68, 69, 70] c14_42)))) (.clear [0, 1, 5, 7, 10, 11, 12, 13, 14, 15, 16, 17, 18, 19, 20, 21, 22, 23, 24, 25, 26, 27, 28, 29, 30, 31, 32, 33, 34, 35, 36, 37, 38, 39, 40, 41, 42, 43, 44, 45, 46, 47, 48, 49, 50, 51, 52, 53, 54, 55, 56, 57, 58, 59, 60, 61, 62, 63, 64, 65, 66, 67, 68, 69, 70] c14_43))) [0, 1, 5, 7, 10, 11, 12, 13, 14, 15, 16, 17, 18, 19, 20, 21, 22, 23, 24, 25, 26, 27, 28, 29, 30, 31, 32, 33, 34, 35, 36, 37, 38, 39, 40, 41, 42, 43, 44, 45, 46, 47, 48, 49, 50, 51, 52, 53, 54, 55, 56, 57, 58, 59, 60, 61, 62, 63, 64, 65, 66, 67, 68, 69, 70]
def o14_45 : List AOper := [⟨some 70, .load true [.int .i64, .int .i64, .slice] (.tmp 8), none⟩,
  ⟨none, .store 3 (.tmp 6) (.tmp 70), none⟩,
  ⟨some 7, .mv (.const (.bool true)), none⟩]
def c14_44 : ACode := .seq (.ops o14_45) (.ret)
def c14_0 : ACode := .seq (.ops o14_1) (.seq (.seq (.ops o14_4) (.cond (.tmp 23) (.seq (.ops o14_7) (.ret)) (.skip))) (.seq (.ops o14_11) (.seq (.seq (.ops o14_14) (.block 0 (.clear [0, 1, 5, 7, 10, 11, 12, 13, 14, 15, 16, 17, 18, 19, 20, 21, 22, 23, 24, 25, 26, 27, 28, 29, 30, 31, 32, 33, 34, 35, 36, 37, 38, 39, 40, 41, 42, 43, 44, 45, 46, 47, 48, 49, 50, 51, 52, 53, 54, 55, 56, 57, 58, 59, 60, 61, 62, 63, 64, 65, 66, 67, 68, 69, 70] (.loop b14_16)))) (.clear [0, 1, 2, 3, 4, 5, 7, 9, 10, 11, 12, 13, 14, 15, 16, 17, 18, 19, 20, 21, 22, 23, 24, 25, 26, 27, 28, 29, 30, 31, 32, 33, 34, 35, 36, 37, 38, 39, 40, 41, 42, 43, 44, 45, 46, 47, 48, 49, 50, 51, 52, 53, 54, 55, 56, 57, 58, 59, 60, 61, 62, 63, 64, 65, 66, 67, 68, 69, 70] c14_44))))
def a14 : AFun := ⟨71, [.cell true [.int .i64, .int .i64, .slice] 6, .tmp 7], c14_0⟩
theorem ok14 : OkFun Try.prog 14 a14 := ⟨Try.f14, Try.f14.body.getD .skip, Try.func14, by kernel_rfl, by kernel_rfl, by kernel_rfl, by kernel_rfl, by kernel_rfl⟩
/-! #### skylightref41.Same -/
def o15_1 : List AOper := [⟨some 2, .box (.tmp 0), none⟩,
  ⟨some 3, .box (.tmp 1), none⟩,
  ⟨some 4, .mv (.const (.bool false)), none⟩]
def o15_4 : List AOper := [⟨some 6, .fieldAddr 0 (.tmp 2), none⟩,
  ⟨some 7, .load false [.int .i64] (.tmp 6), none⟩,
  ⟨some 8, .fieldAddr 0 (.tmp 3), none⟩,
  ⟨some 9, .load false [.int .i64] (.tmp 8), none⟩,
  ⟨some 10, .bin .neq (.tmp 7) (.tmp 9), none⟩,
  ⟨some 11, .mv (.tmp 10), none⟩,
  ⟨some 12, .fieldAddr 1 (.tmp 2), some (11, false)⟩,
  ⟨some 13, .load false [.int .i64] (.tmp 12), some (11, false)⟩,
  ⟨some 14, .fieldAddr 1 (.tmp 3), some (11, false)⟩,
  ⟨some 15, .load false [.int .i64] (.tmp 14), some (11, false)⟩,
  ⟨some 16, .bin .neq (.tmp 13) (.tmp 15), some (11, false)⟩,
  ⟨some 17, .pick (.tmp 11) (.const (.bool true)) (.tmp 16), none⟩,
  ⟨some 18, .mv (.tmp 17), none⟩,
  ⟨some 19, .fieldAddr 2 (.tmp 2), some (18, false)⟩,
  ⟨some 20, .load false [.slice] (.tmp 19), some (18, false)⟩,
  ⟨some 21, .len (.tmp 20), some (18, false)⟩,
  ⟨some 22, .fieldAddr 2 (.tmp 3), some (18, false)⟩,
  ⟨some 23, .load false [.slice] (.tmp 22), some (18, false)⟩,
  ⟨some 24, .len (.tmp 23), some (18, false)⟩,
  ⟨some 25, .bin .neq (.tmp 21) (.tmp 24), some (18, false)⟩,
  ⟨some 26, .pick (.tmp 18) (.const (.bool true)) (.tmp 25), none⟩]
def o15_7 : List AOper := [⟨some 4, .mv (.const (.bool false)), none⟩]
def o15_12 : List AOper := [⟨some 5, .mv (.const (.int .i64 0)), none⟩]
def o15_17 : List AOper := [⟨some 27, .mv (.tmp 5), none⟩,
  ⟨some 28, .fieldAddr 2 (.tmp 2), none⟩,
  ⟨some 29, .load false [.slice] (.tmp 28), none⟩,
  ⟨some 30, .len (.tmp 29), none⟩,
  ⟨some 31, .bin .lss (.tmp 27) (.tmp 30), none⟩]
def o15_24 : List (AOper × Option Nat) := [(⟨some 34, .fieldAddr 2 (.tmp 2), none⟩, none),
  (⟨some 35, .load false [.slice] (.tmp 34), none⟩, none),
  (⟨some 36, .mv (.tmp 5), none⟩, none),
  (⟨some 37, .indexAddr 3 (.tmp 35) (.tmp 36), none⟩, none),
  (⟨some 38, .load true [.int .i64, .int .i64, .int .i64] (.tmp 37), none⟩, none),
  (⟨some 39, .fieldAddr 2 (.tmp 3), none⟩, none),
  (⟨some 40, .load false [.slice] (.tmp 39), none⟩, none),
  (⟨some 41, .mv (.tmp 5), none⟩, none),
  (⟨some 42, .indexAddr 3 (.tmp 40) (.tmp 41), none⟩, none),
  (⟨some 43, .load true [.int .i64, .int .i64, .int .i64] (.tmp 42), none⟩, none),
  (⟨some 44, .eqAgg [.int .i64, .int .i64, .int .i64] true (.tmp 38) (.tmp 43), none⟩, none)]
def o15_27 : List AOper := [⟨some 4, .mv (.const (.bool false)), none⟩]
def o15_30 : List AOper := [⟨some 32, .mv (.tmp 5), none⟩,
  ⟨some 33, .bin .add (.tmp 32) (.const (.int .i64 1)), none⟩,
  ⟨some 5, .mv (.tmp 33), none⟩]
def c15_30 : ACode := .ops o15_30
def b15_14 : ACode := .post (.seq (.seq (.ops o15_17) (.cond (.tmp 31) (.skip) (.exit 0))) (.seq (.block 1 (.seq (.draw [] 0 o15_24 []) (.cond (.tmp 44) (.seq (.ops o15_27) (.ret)) (.skip)))) (.clear [0, 1, 4, 6, 7, 8, 9, 10, 11, 12, 13, 14, 15, 16, 17, 18, 19, 20, 21, 22, 23, 24, 25, 26, 27, 28, 29, 30, 31, 32, 33, 34, 35, 36, 37, 38, 39, 40, 41, 42, 43, 44] c15_30))) [0, 1, 4, 6, 7, 8, 9, 10, 11, 12, 13, 14, 15, 16, 17, 18, 19, 20, 21, 22, 23, 24, 25, 26, 27, 28, 29, 30, 31, 32, 33, 34, 35, 36, 37, 38, 39, 40, 41, 42, 43, 44]
def o15_32 : List AOper := [⟨some 4, .mv (.const (.bool true)), none⟩]
def c15_31 : ACode := .seq (.ops o15_32) (.ret)
def c15_0 : ACode := .seq (.ops o15_1) (.seq (.seq (.ops o15_4) (.cond (.tmp 26) (.seq (.ops o15_7) (.ret)) (.skip))) (.seq (.seq (.ops o15_12) (.block 0 (.clear [0, 1, 4, 6, 7, 8, 9, 10, 11, 12, 13, 14, 15, 16, 17, 18, 19, 20, 21, 22, 23, 24, 25, 26, 27, 28, 29, 30, 31, 32, 33, 34, 35, 36, 37, 38, 39, 40, 41, 42, 43, 44] (.loop b15_14)))) (.clear [0, 1, 2, 3, 4, 5, 6, 7, 8, 9, 10, 11, 12, 13, 14, 15, 16, 17, 18, 19, 20, 21, 22, 23, 24, 25, 26, 27, 28, 29, 30, 31, 32, 33, 34, 35, 36, 37, 38, 39, 40, 41, 42, 43, 44] c15_31)))
def a15 : AFun := ⟨45, [.tmp 4], c15_0⟩
theorem ok15 : OkFun Try.prog 15 a15 := ⟨Try.f15, Try.f15.body.getD .skip, Try.func15, by kernel_rfl, by kernel_rfl, by kernel_rfl, by kernel_rfl, by kernel_rfl⟩
/-! #### skylightlaw49.back -/
def o16_1 : List AOper := [⟨some 1, .box (.tmp 0), none⟩,
  ⟨some 2, .alloc [.int .i64 0, .int .i64 0, .slice none 0 0], none⟩]
def o16_3 : List AOper := [⟨some 3, .fieldAddr 0 (.tmp 1), none⟩,
  ⟨some 4, .load false [.int .i64] (.tmp 3), none⟩,
  ⟨some 5, .fieldAddr 1 (.tmp 1), none⟩,
  ⟨some 6, .load false [.int .i64] (.tmp 5), none⟩,
  ⟨some 7, .fieldAddr 2 (.tmp 1), none⟩,
  ⟨some 8, .load false [.slice] (.tmp 7), none⟩,
  ⟨some 9, .build [.int .i64 0, .int .i64 0, .slice none 0 0] [(0, 1, .tmp 4), (1, 1, .tmp 6), (2, 1, .tmp 8)], none⟩,
  ⟨none, .store 3 (.tmp 2) (.tmp 9), none⟩]
def c16_0 : ACode := .seq (.ops o16_1) (.seq (.ops o16_3) (.ret))
def a16 : AFun := ⟨10, [.cell true [.int .i64, .int .i64, .slice] 2], c16_0⟩
theorem ok16 : OkFun Try.prog 16 a16 := ⟨Try.f16, Try.f16.body.getD .skip, Try.func16, by kernel_rfl, by kernel_rfl, by kernel_rfl, by kernel_rfl, by kernel_rfl⟩
/-! #### diff.Root -/
def o17_1 : List AOper := [⟨some 2, .box (.tmp 0), none⟩,
  ⟨some 4, .mv (.const (.int .i64 0)), none⟩]
def o17_4 : List AOper := [⟨some 5, .fieldAddr 3 (.tmp 2), none⟩,
  ⟨some 6, .load false [.int .i64] (.tmp 5), none⟩,
  ⟨some 7, .bin .lss (.tmp 6) (.const (.int .i64 0)), none⟩,
  ⟨some 8, .mv (.tmp 7), none⟩,
  ⟨some 9, .fieldAddr 3 (.tmp 2), some (8, false)⟩,
  ⟨some 10, .load false [.int .i64] (.tmp 9), some (8, false)⟩,
  ⟨some 11, .bin .gtr (.tmp 10) (.const (.int .i64 1099511627776)), some (8, false)⟩,
  ⟨some 12, .pick (.tmp 8) (.const (.bool true)) (.tmp 11), none⟩,
  ⟨some 13, .mv (.tmp 12), none⟩,
  ⟨some 14, .mv (.tmp 1), some (13, false)⟩,
  ⟨some 15, .bin .lss (.tmp 14) (.const (.int .i64 1)), some (13, false)⟩,
  ⟨some 16, .pick (.tmp 13) (.const (.bool true)) (.tmp 15), none⟩,
  ⟨some 17, .mv (.tmp 16), none⟩,
  ⟨some 18, .mv (.tmp 1), some (17, false)⟩,
  ⟨some 19, .bin .gtr (.tmp 18) (.const (.int .i64 65536)), some (17, false)⟩,
  ⟨some 20, .pick (.tmp 17) (.const (.bool true)) (.tmp 19), none⟩]
def o17_7 : List AOper := [⟨some 4, .mv (.const (.int .i64 0)), none⟩]
def o17_11 : List AOper := [⟨some 21, .fieldAddr 3 (.tmp 2), none⟩,
  ⟨some 22, .load false [.int .i64] (.tmp 21), none⟩,
  ⟨some 23, .mv (.tmp 1), none⟩,
  ⟨some 24, .bin .mul (.const (.int .i64 3)) (.tmp 23), none⟩,
  ⟨some 25, .bin .quo (.tmp 22) (.tmp 24), none⟩,
  ⟨some 26, .conv .u64 (.tmp 25), none⟩,
  ⟨some 27, .call true (.func 24) [.tmp 26] [(false, [.int .i64])] true, none⟩,
  ⟨some 4, .mv (.tmp 27), none⟩]
def c17_0 : ACode := .seq (.ops o17_1) (.seq (.seq (.ops o17_4) (.cond (.tmp 20) (.seq (.ops o17_7) (.ret)) (.skip))) (.seq (.ops o17_11) (.ret)))
def a17 : AFun := ⟨28, [.tmp 4], c17_0⟩
theorem ok17 : OkFun Try.prog 17 a17 := ⟨Try.f17, Try.f17.body.getD .skip, Try.func17, by kernel_rfl, by kernel_rfl, by kernel_rfl, by kernel_rfl, by kernel_rfl⟩
/-! #### skylightref49.Root -/
def o18_1 : List AOper := [⟨some 2, .box (.tmp 0), none⟩,
  ⟨some 4, .mv (.const (.int .i64 0)), none⟩]
def o18_4 : List AOper := [⟨some 5, .fieldAddr 3 (.tmp 2), none⟩,
  ⟨some 6, .load false [.int .i64] (.tmp 5), none⟩,
  ⟨some 7, .bin .lss (.tmp 6) (.const (.int .i64 0)), none⟩,
  ⟨some 8, .mv (.tmp 7), none⟩,
  ⟨some 9, .fieldAddr 3 (.tmp 2), some (8, false)⟩,
  ⟨some 10, .load false [.int .i64] (.tmp 9), some (8, false)⟩,
  ⟨some 11, .bin .gtr (.tmp 10) (.const (.int .i64 1099511627776)), some (8, false)⟩,
  ⟨some 12, .pick (.tmp 8) (.const (.bool true)) (.tmp 11), none⟩,
  ⟨some 13, .mv (.tmp 12), none⟩,
  ⟨some 14, .mv (.tmp 1), some (13, false)⟩,
  ⟨some 15, .bin .lss (.tmp 14) (.const (.int .i64 1)), some (13, false)⟩,
  ⟨some 16, .pick (.tmp 13) (.const (.bool true)) (.tmp 15), none⟩,
  ⟨some 17, .mv (.tmp 16), none⟩,
  ⟨some 18, .mv (.tmp 1), some (17, false)⟩,
  ⟨some 19, .bin .gtr (.tmp 18) (.const (.int .i64 65536)), some (17, false)⟩,
  ⟨some 20, .pick (.tmp 17) (.const (.bool true)) (.tmp 19), none⟩]
def o18_7 : List AOper := [⟨some 4, .mv (.const (.int .i64 0)), none⟩]
def o18_11 : List AOper := [⟨some 21, .fieldAddr 3 (.tmp 2), none⟩,
  ⟨some 22, .load false [.int .i64] (.tmp 21), none⟩,
  ⟨some 23, .mv (.tmp 1), none⟩,
  ⟨some 24, .bin .mul (.const (.int .i64 3)) (.tmp 23), none⟩,
  ⟨some 25, .call true (.func 23) [.tmp 22, .tmp 24] [(false, [.int .i64])] true, none⟩,
  ⟨some 26, .conv .u64 (.tmp 25), none⟩,
  ⟨some 27, .call true (.func 25) [.tmp 26] [(false, [.int .i64])] true, none⟩,
  ⟨some 4, .mv (.tmp 27), none⟩]
def c18_0 : ACode := .seq (.ops o18_1) (.seq (.seq (.ops o18_4) (.cond (.tmp 20) (.seq (.ops o18_7) (.ret)) (.skip))) (.seq (.ops o18_11) (.ret)))
def a18 : AFun := ⟨28, [.tmp 4], c18_0⟩
theorem ok18 : OkFun Try.prog 18 a18 := ⟨Try.f18, Try.f18.body.getD .skip, Try.func18, by kernel_rfl, by kernel_rfl, by kernel_rfl, by kernel_rfl, by kernel_rfl⟩
/-! #### skylightref49.Fit -/
def o19_1 : List AOper := [⟨some 2, .box (.tmp 0), none⟩,
  ⟨some 3, .box (.tmp 1), none⟩,
  ⟨some 4, .mv (.const (.bool false)), none⟩]
def o19_3 : List AOper := [⟨some 5, .load true [.int .i64, .int .i64, .slice] (.tmp 2), none⟩,
  ⟨some 6, .call false (.func 26) [.tmp 5] [(false, [.bool])] true, none⟩,
  ⟨some 7, .mv (.tmp 6), none⟩,
  ⟨some 8, .load true [.int .i64, .int .i64, .slice] (.tmp 3), some (7, true)⟩,
  ⟨some 9, .call false (.func 26) [.tmp 8] [(false, [.bool])] true, some (7, true)⟩,
  ⟨some 10, .pick (.tmp 7) (.tmp 9) (.const (.bool false)), none⟩,
  ⟨some 11, .mv (.tmp 10), none⟩,
  ⟨some 12, .fieldAddr 0 (.tmp 2), some (11, true)⟩,
  ⟨some 13, .load false [.int .i64] (.tmp 12), some (11, true)⟩,
  ⟨some 14, .fieldAddr 0 (.tmp 3), some (11, true)⟩,
  ⟨some 15, .load false [.int .i64] (.tmp 14), some (11, true)⟩,
  ⟨some 16, .bin .eql (.tmp 13) (.tmp 15), some (11, true)⟩,
  ⟨some 17, .pick (.tmp 11) (.tmp 16) (.const (.bool false)), none⟩,
  ⟨some 18, .mv (.tmp 17), none⟩,
  ⟨some 19, .fieldAddr 1 (.tmp 2), some (18, true)⟩,
  ⟨some 20, .load false [.int .i64] (.tmp 19), some (18, true)⟩,
  ⟨some 21, .fieldAddr 1 (.tmp 3), some (18, true)⟩,
  ⟨some 22, .load false [.int .i64] (.tmp 21), some (18, true)⟩,
  ⟨some 23, .bin .eql (.tmp 20) (.tmp 22), some (18, true)⟩,
  ⟨some 24, .pick (.tmp 18) (.tmp 23) (.const (.bool false)), none⟩,
  ⟨some 4, .mv (.tmp 24), none⟩]
def c19_0 : ACode := .seq (.ops o19_1) (.seq (.ops o19_3) (.ret))
def a19 : AFun := ⟨25, [.tmp 4], c19_0⟩
theorem ok19 : OkFun Try.prog 19 a19 := ⟨Try.f19, Try.f19.body.getD .skip, Try.func19, by kernel_rfl, by kernel_rfl, by kernel_rfl, by kernel_rfl, by kernel_rfl⟩
/-! #### diff.fit -/
def o20_1 : List AOper := [⟨some 2, .box (.tmp 0), none⟩,
  ⟨some 3, .box (.tmp 1), none⟩,
  ⟨some 4, .mv (.const (.bool false)), none⟩]
def o20_3 : List AOper := [⟨some 5, .fieldAddr 0 (.tmp 2), none⟩,
  ⟨some 6, .load false [.int .i64] (.tmp 5), none⟩,
  ⟨some 7, .fieldAddr 0 (.tmp 3), none⟩,
  ⟨some 8, .load false [.int .i64] (.tmp 7), none⟩,
  ⟨some 9, .bin .eql (.tmp 6) (.tmp 8), none⟩,
  ⟨some 10, .mv (.tmp 9), none⟩,
  ⟨some 11, .fieldAddr 1 (.tmp 2), some (10, true)⟩,
  ⟨some 12, .load false [.int .i64] (.tmp 11), some (10, true)⟩,
  ⟨some 13, .fieldAddr 1 (.tmp 3), some (10, true)⟩,
  ⟨some 14, .load false [.int .i64] (.tmp 13), some (10, true)⟩,
  ⟨some 15, .bin .eql (.tmp 12) (.tmp 14), some (10, true)⟩,
  ⟨some 16, .pick (.tmp 10) (.tmp 15) (.const (.bool false)), none⟩,
  ⟨some 17, .mv (.tmp 16), none⟩,
  ⟨some 18, .load true [.int .i64, .int .i64, .slice] (.tmp 2), some (17, true)⟩,
  ⟨some 19, .call false (.func 27) [.tmp 18] [(false, [.bool])] true, some (17, true)⟩,
  ⟨some 20, .pick (.tmp 17) (.tmp 19) (.const (.bool false)), none⟩,
  ⟨some 21, .mv (.tmp 20), none⟩,
  ⟨some 22, .load true [.int .i64, .int .i64, .slice] (.tmp 3), some (21, true)⟩,
  ⟨some 23, .call false (.func 27) [.tmp 22] [(false, [.bool])] true, some (21, true)⟩,
  ⟨some 24, .pick (.tmp 21) (.tmp 23) (.const (.bool false)), none⟩,
  ⟨some 4, .mv (.tmp 24), none⟩]
def c20_0 : ACode := .seq (.ops o20_1) (.seq (.ops o20_3) (.ret))
def a20 : AFun := ⟨25, [.tmp 4], c20_0⟩
theorem ok20 : OkFun Try.prog 20 a20 := ⟨Try.f20, Try.f20.body.getD .skip, Try.func20, by kernel_rfl, by kernel_rfl, by kernel_rfl, by kernel_rfl, by kernel_rfl⟩
/-! #### diff.pairs -/
def o21_1 : List AOper := [⟨some 2, .box (.tmp 0), none⟩,
  ⟨some 3, .box (.tmp 1), none⟩,
  ⟨some 4, .mv (.const (.nilFunc)), none⟩]
def o21_3 : List AOper := [⟨some 5, .makeFunc (.func 28) [] [.tmp 2, .tmp 3], none⟩,
  ⟨some 4, .mv (.tmp 5), none⟩]
def c21_0 : ACode := .seq (.ops o21_1) (.seq (.ops o21_3) (.ret))
def a21 : AFun := ⟨6, [.tmp 4], c21_0⟩
theorem ok21 : OkFun Try.prog 21 a21 := ⟨Try.f21, Try.f21.body.getD .skip, Try.func21, by kernel_rfl, by kernel_rfl, by kernel_rfl, by kernel_rfl, by kernel_rfl⟩
/-! #### slices.Clone[[][3]int,[3]int] -/
def o22_1 : List AOper := [⟨some 2, .mv (.const (.slice none 0 0)), none⟩]
def o22_4 : List AOper := [⟨some 3, .mv (.tmp 0), none⟩,
  ⟨some 4, .eqNil 1 false (.tmp 3), none⟩]
def o22_7 : List AOper := [⟨some 2, .mv (.const (.slice none 0 0)), none⟩]
def o22_11 : List AOper := [⟨some 5, .buildSlice 3 0 [] [], none⟩,
  ⟨some 6, .mv (.tmp 0), none⟩,
  ⟨some 7, .append 3 24 (.tmp 5) (.tmp 6), none⟩,
  ⟨some 2, .mv (.tmp 7), none⟩]
def c22_0 : ACode := .seq (.ops o22_1) (.seq (.seq (.ops o22_4) (.cond (.tmp 4) (.seq (.ops o22_7) (.ret)) (.skip))) (.seq (.ops o22_11) (.ret)))
def a22 : AFun := ⟨8, [.tmp 2], c22_0⟩
theorem ok22 : OkFun Try.prog 22 a22 := ⟨Try.f22, Try.f22.body.getD .skip, Try.func22, by kernel_rfl, by kernel_rfl, by kernel_rfl, by kernel_rfl, by kernel_rfl⟩
/-! #### skylightref01.Div -/
def o23_1 : List AOper := [⟨some 4, .mv (.const (.int .i64 0)), none⟩]
def o23_4 : List AOper := [⟨some 6, .mv (.tmp 1), none⟩,
  ⟨some 7, .bin .lss (.tmp 6) (.const (.int .i64 1)), none⟩]
def o23_7 : List AOper := [⟨some 4, .mv (.const (.int .i64 0)), none⟩]
def o23_11 : List AOper := [⟨some 8, .mv (.tmp 0), none⟩,
  ⟨some 9, .mv (.tmp 1), none⟩,
  ⟨some 10, .bin .quo (.tmp 8) (.tmp 9), none⟩,
  ⟨some 5, .mv (.tmp 10), none⟩]
def o23_14 : List AOper := [⟨some 11, .mv (.tmp 0), none⟩,
  ⟨some 12, .bin .lss (.tmp 11) (.const (.int .i64 0)), none⟩,
  ⟨some 13, .mv (.tmp 12), none⟩,
  ⟨some 14, .mv (.tmp 0), some (13, true)⟩,
  ⟨some 15, .mv (.tmp 1), some (13, true)⟩,
  ⟨some 16, .bin .rem (.tmp 14) (.tmp 15), some (13, true)⟩,
  ⟨some 17, .bin .neq (.tmp 16) (.const (.int .i64 0)), some (13, true)⟩,
  ⟨some 18, .pick (.tmp 13) (.tmp 17) (.const (.bool false)), none⟩]
def o23_16 : List AOper := [⟨some 19, .mv (.tmp 5), none⟩,
  ⟨some 20, .bin .sub (.tmp 19) (.const (.int .i64 1)), none⟩,
  ⟨some 5, .mv (.tmp 20), none⟩]
def o23_19 : List AOper := [⟨some 21, .mv (.tmp 5), none⟩,
  ⟨some 4, .mv (.tmp 21), none⟩]
def c23_18 : ACode := .seq (.ops o23_19) (.ret)
def c23_0 : ACode := .seq (.ops o23_1) (.seq (.seq (.ops o23_4) (.cond (.tmp 7) (.seq (.ops o23_7) (.ret)) (.skip))) (.seq (.ops o23_11) (.seq (.seq (.ops o23_14) (.cond (.tmp 18) (.ops o23_16) (.skip))) (.clear [0, 1, 2, 3, 4, 6, 7, 8, 9, 10, 11, 12, 13, 14, 15, 16, 17, 18, 19, 20, 21] c23_18))))
def a23 : AFun := ⟨22, [.tmp 4], c23_0⟩
theorem ok23 : OkFun Try.prog 23 a23 := ⟨Try.f23, Try.f23.body.getD .skip, Try.func23, by kernel_rfl, by kernel_rfl, by kernel_rfl, by kernel_rfl, by kernel_rfl⟩
/-! #### num.Root -/
def o24_1 : List AOper := [⟨some 2, .mv (.const (.int .i64 0)), none⟩]
def o24_4 : List AOper := [⟨some 5, .mv (.tmp 0), none⟩,
  ⟨some 6, .bin .eql (.tmp 5) (.const (.int .u64 0)), none⟩]
def o24_7 : List AOper := [⟨some 2, .mv (.const (.int .i64 0)), none⟩]
def o24_11 : List AOper := [⟨some 7, .mv (.tmp 0), none⟩,
  ⟨some 8, .call true (.func 29) [.tmp 7] [(false, [.int .i64])] true, none⟩,
  ⟨some 9, .bin .add (.tmp 8) (.const (.int .i64 1)), none⟩,
  ⟨some 10, .bin .quo (.tmp 9) (.const (.int .i64 2)), none⟩,
  ⟨some 11, .bin .shl (.const (.int .u64 1)) (.tmp 10), none⟩,
  ⟨some 3, .mv (.tmp 11), none⟩]
def o24_16 : List AOper := [⟨some 12, .mv (.tmp 3), none⟩,
  ⟨some 13, .mv (.tmp 0), none⟩,
  ⟨some 14, .mv (.tmp 3), none⟩,
  ⟨some 15, .bin .quo (.tmp 13) (.tmp 14), none⟩,
  ⟨some 16, .bin .add (.tmp 12) (.tmp 15), none⟩,
  ⟨some 17, .bin .quo (.tmp 16) (.const (.int .u64 2)), none⟩,
  ⟨some 4, .mv (.tmp 17), none⟩]
def o24_19 : List AOper := [⟨some 18, .mv (.tmp 4), none⟩,
  ⟨some 19, .mv (.tmp 3), none⟩,
  ⟨some 20, .bin .geq (.tmp 18) (.tmp 19), none⟩]
def o24_22 : List AOper := [⟨some 21, .mv (.tmp 3), none⟩,
  ⟨some 22, .conv .i64 (.tmp 21), none⟩,
  ⟨some 2, .mv (.tmp 22), none⟩]
def o24_25 : List AOper := [⟨some 23, .mv (.tmp 4), none⟩,
  ⟨some 3, .mv (.tmp 23), none⟩]
def b24_13 : ACode := .post (.block 1 (.seq (.ops o24_16) (.seq (.seq (.ops o24_19) (.cond (.tmp 20) (.seq (.ops o24_22) (.ret)) (.skip))) (.ops o24_25)))) [1, 2, 4, 5, 6, 7, 8, 9, 10, 11, 12, 13, 14, 15, 16, 17, 18, 19, 20, 21, 22, 23]
def c24_0 : ACode := .seq (.ops o24_1) (.seq (.seq (.ops o24_4) (.cond (.tmp 6) (.seq (.ops o24_7) (.ret)) (.skip))) (.seq (.ops o24_11) (.block 0 (.clear [1, 2, 4, 5, 6, 7, 8, 9, 10, 11, 12, 13, 14, 15, 16, 17, 18, 19, 20, 21, 22, 23] (.loop b24_13)))))
def a24 : AFun := ⟨24, [.tmp 2], c24_0⟩
theorem ok24 : OkFun Try.prog 24 a24 := ⟨Try.f24, Try.f24.body.getD .skip, Try.func24, by kernel_rfl, by kernel_rfl, by kernel_rfl, by kernel_rfl, by kernel_rfl⟩
/-! #### skylightref01.Root -/
def o25_1 : List AOper := [⟨some 2, .mv (.const (.int .i64 0)), none⟩]
def o25_3 : List AOper := [⟨some 3, .mv (.const (.int .u64 0)), none⟩]
def o25_6 : List AOper := [⟨some 4, .mv (.const (.int .i64 31)), none⟩]
def o25_11 : List AOper := [⟨some 6, .mv (.tmp 4), none⟩,
  ⟨some 7, .bin .geq (.tmp 6) (.const (.int .i64 0)), none⟩]
def o25_18 : List AOper := [⟨some 10, .mv (.tmp 3), none⟩,
  ⟨some 11, .mv (.tmp 4), none⟩,
  ⟨some 12, .bin .shl (.const (.int .u64 1)) (.tmp 11), none⟩,
  ⟨some 13, .bin .add (.tmp 10) (.tmp 12), none⟩,
  ⟨some 5, .mv (.tmp 13), none⟩]
def o25_20 : List AOper := [⟨some 14, .mv (.tmp 5), none⟩,
  ⟨some 15, .mv (.tmp 5), none⟩,
  ⟨some 16, .bin .mul (.tmp 14) (.tmp 15), none⟩,
  ⟨some 17, .mv (.tmp 0), none⟩,
  ⟨some 18, .bin .leq (.tmp 16) (.tmp 17), none⟩]
def o25_22 : List AOper := [⟨some 19, .mv (.tmp 5), none⟩,
  ⟨some 3, .mv (.tmp 19), none⟩]
def o25_24 : List AOper := [⟨some 8, .mv (.tmp 4), none⟩,
  ⟨some 9, .bin .sub (.tmp 8) (.const (.int .i64 1)), none⟩,
  ⟨some 4, .mv (.tmp 9), none⟩]
def c25_24 : ACode := .ops o25_24
def b25_8 : ACode := .post (.seq (.seq (.ops o25_11) (.cond (.tmp 7) (.skip) (.exit 0))) (.seq (.block 1 (.seq (.ops o25_18) (.seq (.ops o25_20) (.cond (.tmp 18) (.ops o25_22) (.skip))))) (.clear [1, 2, 5, 6, 7, 8, 9, 10, 11, 12, 13, 14, 15, 16, 17, 18, 19, 20, 21] c25_24))) [1, 2, 5, 6, 7, 8, 9, 10, 11, 12, 13, 14, 15, 16, 17, 18, 19, 20, 21]
def o25_26 : List AOper := [⟨some 20, .mv (.tmp 3), none⟩,
  ⟨some 21, .conv .i64 (.tmp 20), none⟩,
  ⟨some 2, .mv (.tmp 21), none⟩]
def c25_25 : ACode := .seq (.ops o25_26) (.ret)
def c25_0 : ACode := .seq (.ops o25_1) (.seq (.ops o25_3) (.seq (.seq (.ops o25_6) (.block 0 (.clear [1, 2, 5, 6, 7, 8, 9, 10, 11, 12, 13, 14, 15, 16, 17, 18, 19, 20, 21] (.loop b25_8)))) (.clear [0, 1, 2, 4, 5, 6, 7, 8, 9, 10, 11, 12, 13, 14, 15, 16, 17, 18, 19, 20, 21] c25_25)))
def a25 : AFun := ⟨22, [.tmp 2], c25_0⟩
theorem ok25 : OkFun Try.prog 25 a25 := ⟨Try.f25, Try.f25.body.getD .skip, Try.func25, by kernel_rfl, by kernel_rfl, by kernel_rfl, by kernel_rfl, by kernel_rfl⟩
/-! #### skylightref41.Right -/
def o26_1 : List AOper := [⟨some 1, .box (.tmp 0), none⟩,
  ⟨some 2, .mv (.const (.bool false)), none⟩]
def o26_4 : List AOper := [⟨some 3, .mv (.const (.int .i64 0)), none⟩]
def o26_9 : List AOper := [⟨some 4, .mv (.tmp 3), none⟩,
  ⟨some 5, .fieldAddr 2 (.tmp 1), none⟩,
  ⟨some 6, .load false [.slice] (.tmp 5), none⟩,
  ⟨some 7, .len (.tmp 6), none⟩,
  ⟨some 8, .bin .lss (.tmp 4) (.tmp 7), none⟩]
def o26_16 : List (AOper × Option Nat) := [(⟨some 11, .fieldAddr 2 (.tmp 1), none⟩, none),
  (⟨some 12, .load false [.slice] (.tmp 11), none⟩, none),
  (⟨some 13, .mv (.tmp 3), none⟩, none),
  (⟨some 14, .indexAddr 3 (.tmp 12) (.tmp 13), none⟩, none),
  (⟨some 15, .indexArr 3 1 (.tmp 14) (.const (.int .i64 0)), none⟩, none),
  (⟨some 16, .load false [.int .i64] (.tmp 15), none⟩, none),
  (⟨some 17, .fieldAddr 2 (.tmp 1), none⟩, none),
  (⟨some 18, .load false [.slice] (.tmp 17), none⟩, none),
  (⟨some 19, .mv (.tmp 3), none⟩, none),
  (⟨some 20, .indexAddr 3 (.tmp 18) (.tmp 19), none⟩, none),
  (⟨some 21, .indexArr 3 1 (.tmp 20) (.const (.int .i64 1)), none⟩, none),
  (⟨some 22, .load false [.int .i64] (.tmp 21), none⟩, none),
  (⟨some 23, .fieldAddr 2 (.tmp 1), none⟩, none),
  (⟨some 24, .load false [.slice] (.tmp 23), none⟩, none),
  (⟨some 25, .mv (.tmp 3), none⟩, none),
  (⟨some 26, .indexAddr 3 (.tmp 24) (.tmp 25), none⟩, none),
  (⟨some 27, .indexArr 3 1 (.tmp 26) (.const (.int .i64 2)), none⟩, none),
  (⟨some 28, .load false [.int .i64] (.tmp 27), none⟩, none),
  (⟨some 29, .minmax false [.tmp 16, .tmp 22, .tmp 28], none⟩, none),
  (⟨some 30, .bin .lss (.tmp 29) (.const (.int .i64 0)), none⟩, none),
  (⟨some 31, .mv (.tmp 30), none⟩, none),
  (⟨some 32, .fieldAddr 2 (.tmp 1), some (31, false)⟩, none),
  (⟨some 33, .load false [.slice] (.tmp 32), some (31, false)⟩, none),
  (⟨some 34, .mv (.tmp 3), some (31, false)⟩, none),
  (⟨some 35, .indexAddr 3 (.tmp 33) (.tmp 34), some (31, false)⟩, none),
  (⟨some 36, .indexArr 3 1 (.tmp 35) (.const (.int .i64 0)), some (31, false)⟩, none),
  (⟨some 37, .load false [.int .i64] (.tmp 36), some (31, false)⟩, none),
  (⟨some 38, .fieldAddr 2 (.tmp 1), some (31, false)⟩, none),
  (⟨some 39, .load false [.slice] (.tmp 38), some (31, false)⟩, none),
  (⟨some 40, .mv (.tmp 3), some (31, false)⟩, none),
  (⟨some 41, .indexAddr 3 (.tmp 39) (.tmp 40), some (31, false)⟩, none),
  (⟨some 42, .indexArr 3 1 (.tmp 41) (.const (.int .i64 1)), some (31, false)⟩, none),
  (⟨some 43, .load false [.int .i64] (.tmp 42), some (31, false)⟩, none),
  (⟨some 44, .fieldAddr 2 (.tmp 1), some (31, false)⟩, none),
  (⟨some 45, .load false [.slice] (.tmp 44), some (31, false)⟩, none),
  (⟨some 46, .mv (.tmp 3), some (31, false)⟩, none),
  (⟨some 47, .indexAddr 3 (.tmp 45) (.tmp 46), some (31, false)⟩, none),
  (⟨some 48, .indexArr 3 1 (.tmp 47) (.const (.int .i64 2)), some (31, false)⟩, none),
  (⟨some 49, .load false [.int .i64] (.tmp 48), some (31, false)⟩, none),
  (⟨some 50, .minmax true [.tmp 37, .tmp 43, .tmp 49], some (31, false)⟩, none),
  (⟨some 51, .bin .gtr (.tmp 50) (.const (.int .i64 255)), some (31, false)⟩, none),
  (⟨some 52, .pick (.tmp 31) (.const (.bool true)) (.tmp 51), none⟩, none)]
def o26_19 : List AOper := [⟨some 2, .mv (.const (.bool false)), none⟩]
def o26_22 : List AOper := [⟨some 9, .mv (.tmp 3), none⟩,
  ⟨some 10, .bin .add (.tmp 9) (.const (.int .i64 1)), none⟩,
  ⟨some 3, .mv (.tmp 10), none⟩]
def c26_22 : ACode := .ops o26_22
def b26_6 : ACode := .post (.seq (.seq (.ops o26_9) (.cond (.tmp 8) (.skip) (.exit 0))) (.seq (.block 1 (.seq (.draw [] 0 o26_16 []) (.cond (.tmp 52) (.seq (.ops o26_19) (.ret)) (.skip)))) (.clear [0, 2, 4, 5, 6, 7, 8, 9, 10, 11, 12, 13, 14, 15, 16, 17, 18, 19, 20, 21, 22, 23, 24, 25, 26, 27, 28, 29, 30, 31, 32, 33, 34, 35, 36, 37, 38, 39, 40, 41, 42, 43, 44, 45, 46, 47, 48, 49, 50, 51, 52, 53, 54, 55, 56, 57, 58, 59, 60] c26_22))) [0, 2, 4, 5, 6, 7, 8, 9, 10, 11, 12, 13, 14, 15, 16, 17, 18, 19, 20, 21, 22, 23, 24, 25, 26, 27, 28, 29, 30, 31, 32, 33, 34, 35, 36, 37, 38, 39, 40, 41, 42, 43, 44, 45, 46, 47, 48, 49, 50, 51, 52, 53, 54, 55, 56, 57, 58, 59, 60]
def o26_24 : List AOper := [⟨some 53, .fieldAddr 0 (.tmp 1), none⟩,
  ⟨some 54, .load false [.int .i64] (.tmp 53), none⟩,
  ⟨some 55, .fieldAddr 1 (.tmp 1), none⟩,
  ⟨some 56, .load false [.int .i64] (.tmp 55), none⟩,
  ⟨some 57, .fieldAddr 2 (.tmp 1), none⟩,
  ⟨some 58, .load false [.slice] (.tmp 57), none⟩,
  ⟨some 59, .len (.tmp 58), none⟩,
  ⟨some 60, .call true (.func 30) [.tmp 54, .tmp 56, .tmp 59] [(false, [.bool])] true, none⟩,
  ⟨some 2, .mv (.tmp 60), none⟩]
def c26_23 : ACode := .seq (.ops o26_24) (.ret)
def c26_0 : ACode := .seq (.ops o26_1) (.seq (.seq (.ops o26_4) (.block 0 (.clear [0, 2, 4, 5, 6, 7, 8, 9, 10, 11, 12, 13, 14, 15, 16, 17, 18, 19, 20, 21, 22, 23, 24, 25, 26, 27, 28, 29, 30, 31, 32, 33, 34, 35, 36, 37, 38, 39, 40, 41, 42, 43, 44, 45, 46, 47, 48, 49, 50, 51, 52, 53, 54, 55, 56, 57, 58, 59, 60] (.loop b26_6)))) (.clear [0, 2, 3, 4, 5, 6, 7, 8, 9, 10, 11, 12, 13, 14, 15, 16, 17, 18, 19, 20, 21, 22, 23, 24, 25, 26, 27, 28, 29, 30, 31, 32, 33, 34, 35, 36, 37, 38, 39, 40, 41, 42, 43, 44, 45, 46, 47, 48, 49, 50, 51, 52, 53, 54, 55, 56, 57, 58, 59, 60] c26_23))
def a26 : AFun := ⟨61, [.tmp 2], c26_0⟩
theorem ok26 : OkFun Try.prog 26 a26 := ⟨Try.f26, Try.f26.body.getD .skip, Try.func26, by kernel_rfl, by kernel_rfl, by kernel_rfl, by kernel_rfl, by kernel_rfl⟩
/-! #### picture.Right -/
def o27_1 : List AOper := [⟨some 1, .box (.tmp 0), none⟩,
  ⟨some 2, .mv (.const (.bool false)), none⟩]
def o27_4 : List AOper := [⟨some 5, .fieldAddr 2 (.tmp 1), none⟩,
  ⟨some 6, .load false [.slice] (.tmp 5), none⟩,
  ⟨some 7, .len (.tmp 6), none⟩,
  ⟨some 8, .mv (.const (.int .i64 0)), none⟩]
def o27_8 : List AOper := [⟨some 9, .bin .lss (.tmp 8) (.tmp 7), none⟩]
def o27_16 : List AOper := [⟨some 10, .indexAddr 3 (.tmp 6) (.tmp 8), none⟩,
  ⟨some 11, .load true [.int .i64, .int .i64, .int .i64] (.tmp 10), none⟩,
  ⟨some 4, .alloc [.int .i64 0, .int .i64 0, .int .i64 0], none⟩,
  ⟨none, .store 3 (.tmp 4) (.tmp 11), none⟩]
def o27_18 : List AOper := [⟨some 12, .indexArr 3 1 (.tmp 4) (.const (.int .i64 0)), none⟩,
  ⟨some 13, .load false [.int .i64] (.tmp 12), none⟩,
  ⟨some 14, .call true (.func 31) [.tmp 13] [(false, [.bool])] true, none⟩,
  ⟨some 15, .un .not (.tmp 14), none⟩,
  ⟨some 16, .mv (.tmp 15), none⟩,
  ⟨some 17, .indexArr 3 1 (.tmp 4) (.const (.int .i64 1)), some (16, false)⟩,
  ⟨some 18, .load false [.int .i64] (.tmp 17), some (16, false)⟩,
  ⟨some 19, .call true (.func 31) [.tmp 18] [(false, [.bool])] true, some (16, false)⟩,
  ⟨some 20, .un .not (.tmp 19), some (16, false)⟩,
  ⟨some 21, .pick (.tmp 16) (.const (.bool true)) (.tmp 20), none⟩,
  ⟨some 22, .mv (.tmp 21), none⟩,
  ⟨some 23, .indexArr 3 1 (.tmp 4) (.const (.int .i64 2)), some (22, false)⟩,
  ⟨some 24, .load false [.int .i64] (.tmp 23), some (22, false)⟩,
  ⟨some 25, .call true (.func 31) [.tmp 24] [(false, [.bool])] true, some (22, false)⟩,
  ⟨some 26, .un .not (.tmp 25), some (22, false)⟩,
  ⟨some 27, .pick (.tmp 22) (.const (.bool true)) (.tmp 26), none⟩]
def o27_21 : List AOper := [⟨some 2, .mv (.const (.bool false)), none⟩]
def o27_24 : List AOper := [⟨some 28, .bin .add (.tmp 8) (.const (.int .i64 1)), none⟩,
  ⟨some 8, .mv (.tmp 28), none⟩]
def c27_24 : ACode := .ops o27_24
def b27_6 : ACode := .post (.seq (.ops o27_8) (.seq (.cond (.tmp 9) (.skip) (.exit 0)) (.seq (.block 1 (.seq (.ops o27_16) (.seq (.ops o27_18) (.cond (.tmp 27) (.seq (.ops o27_21) (.ret)) (.skip))))) (.clear [0, 2, 3, 4, 5, 9, 10, 11, 12, 13, 14, 15, 16, 17, 18, 19, 20, 21, 22, 23, 24, 25, 26, 27, 28, 29, 30, 31, 32, 33, 34, 35, 36] c27_24)))) [0, 2, 3, 4, 5, 9, 10, 11, 12, 13, 14, 15, 16, 17, 18, 19, 20, 21, 22, 23, 24, 25, 26, 27, 28, 29, 30, 31, 32, 33, 34, 35, 36]
def o27_26 : List AOper := [⟨some 29, .fieldAddr 0 (.tmp 1), none⟩,
  ⟨some 30, .load false [.int .i64] (.tmp 29), none⟩,
  ⟨some 31, .fieldAddr 1 (.tmp 1), none⟩,
  ⟨some 32, .load false [.int .i64] (.tmp 31), none⟩,
  ⟨some 33, .fieldAddr 2 (.tmp 1), none⟩,
  ⟨some 34, .load false [.slice] (.tmp 33), none⟩,
  ⟨some 35, .len (.tmp 34), none⟩,
  ⟨some 36, .call true (.func 32) [.tmp 30, .tmp 32, .tmp 35] [(false, [.bool])] true, none⟩,
  ⟨some 2, .mv (.tmp 36), none⟩]
def c27_25 : ACode := .seq (.ops o27_26) (.ret)
def c27_0 : ACode := .seq (.ops o27_1) (.seq (.seq (.ops o27_4) (.block 0 (.clear [0, 2, 3, 4, 5, 9, 10, 11, 12, 13, 14, 15, 16, 17, 18, 19, 20, 21, 22, 23, 24, 25, 26, 27, 28, 29, 30, 31, 32, 33, 34, 35, 36] (.loop b27_6)))) (.clear [0, 2, 3, 4, 5, 6, 7, 8, 9, 10, 11, 12, 13, 14, 15, 16, 17, 18, 19, 20, 21, 22, 23, 24, 25, 26, 27, 28, 29, 30, 31, 32, 33, 34, 35, 36] c27_25))
def a27 : AFun := ⟨37, [.tmp 2], c27_0⟩
theorem ok27 : OkFun Try.prog 27 a27 := ⟨Try.f27, Try.f27.body.getD .skip, Try.func27, by kernel_rfl, by kernel_rfl, by kernel_rfl, by kernel_rfl, by kernel_rfl⟩
/-! #### diff.pairs$1 -/
def o28_1 : List AOper := [⟨some 6, .fieldAddr 2 (.tmp 1), none⟩,
  ⟨some 7, .load false [.slice] (.tmp 6), none⟩,
  ⟨some 8, .len (.tmp 7), none⟩,
  ⟨some 9, .mv (.const (.int .i64 0)), none⟩]
def o28_5 : List AOper := [⟨some 10, .bin .lss (.tmp 9) (.tmp 8), none⟩]
def o28_13 : List AOper := [⟨some 11, .mv (.tmp 9), none⟩,
  ⟨some 12, .indexAddr 3 (.tmp 7) (.tmp 9), none⟩,
  ⟨some 13, .load true [.int .i64, .int .i64, .int .i64] (.tmp 12), none⟩,
  ⟨some 5, .alloc [.int .i64 0, .int .i64 0, .int .i64 0], none⟩,
  ⟨some 4, .mv (.tmp 11), none⟩,
  ⟨none, .store 3 (.tmp 5) (.tmp 13), none⟩]
def o28_15 : List (AOper × Option Nat) := [(⟨some 14, .mv (.tmp 0), none⟩, none),
  (⟨some 15, .mv (.tmp 4), none⟩, none),
  (⟨some 16, .load true [.int .i64, .int .i64, .int .i64] (.tmp 5), none⟩, none),
  (⟨some 17, .fieldAddr 2 (.tmp 2), none⟩, none),
  (⟨some 18, .load false [.slice] (.tmp 17), none⟩, none),
  (⟨some 19, .mv (.tmp 4), none⟩, none),
  (⟨some 20, .indexAddr 3 (.tmp 18) (.tmp 19), none⟩, none),
  (⟨some 21, .load true [.int .i64, .int .i64, .int .i64] (.tmp 20), none⟩, none),
  (⟨some 22, .build [.int .i64 0, .int .i64 0, .int .i64 0, .int .i64 0, .int .i64 0, .int .i64 0] [(0, 3, .tmp 16), (3, 3, .tmp 21)], none⟩, none),
  (⟨some 23, .call false (.tmp 14) [.tmp 15, .tmp 22] [(false, [.bool])] true, none⟩, none),
  (⟨some 24, .un .not (.tmp 23), none⟩, none)]
def o28_19 : List AOper := [⟨some 25, .bin .add (.tmp 9) (.const (.int .i64 1)), none⟩,
  ⟨some 9, .mv (.tmp 25), none⟩]
def c28_19 : ACode := .ops o28_19
def b28_3 : ACode := .post (.seq (.ops o28_5) (.seq (.cond (.tmp 10) (.skip) (.exit 0)) (.seq (.block 1 (.seq (.ops o28_13) (.seq (.draw [] 0 o28_15 []) (.cond (.tmp 24) (.ret) (.skip))))) (.clear [1, 3, 4, 5, 6, 10, 11, 12, 13, 14, 15, 16, 17, 18, 19, 20, 21, 22, 23, 24, 25] c28_19)))) [1, 3, 4, 5, 6, 10, 11, 12, 13, 14, 15, 16, 17, 18, 19, 20, 21, 22, 23, 24, 25]
def c28_0 : ACode := .seq (.ops o28_1) (.block 0 (.clear [1, 3, 4, 5, 6, 10, 11, 12, 13, 14, 15, 16, 17, 18, 19, 20, 21, 22, 23, 24, 25] (.loop b28_3)))
def a28 : AFun := ⟨26, [], c28_0⟩
theorem ok28 : OkFun Try.prog 28 a28 := ⟨Try.f28, Try.f28.body.getD .skip, Try.func28, by kernel_rfl, by kernel_rfl, by kernel_rfl, by kernel_rfl, by kernel_rfl⟩
/-! #### math/bits.Len64 -/
def o29_1 : List AOper := [⟨some 2, .mv (.const (.int .i64 0)), none⟩]
def o29_4 : List AOper := [⟨some 3, .mv (.tmp 0), none⟩,
  ⟨some 4, .bin .geq (.tmp 3) (.const (.int .u64 4294967296)), none⟩]
def o29_7 : List AOper := [⟨some 5, .mv (.tmp 0), none⟩,
  ⟨some 6, .bin .shr (.tmp 5) (.const (.int .u64 32)), none⟩,
  ⟨some 0, .mv (.tmp 6), none⟩]
def o29_8 : List AOper := [⟨some 2, .mv (.const (.int .i64 32)), none⟩]
def o29_12 : List AOper := [⟨some 7, .mv (.tmp 0), none⟩,
  ⟨some 8, .bin .geq (.tmp 7) (.const (.int .u64 65536)), none⟩]
def o29_15 : List AOper := [⟨some 9, .mv (.tmp 0), none⟩,
  ⟨some 10, .bin .shr (.tmp 9) (.const (.int .u64 16)), none⟩,
  ⟨some 0, .mv (.tmp 10), none⟩]
def o29_16 : List AOper := [⟨some 11, .mv (.tmp 2), none⟩,
  ⟨some 12, .bin .add (.tmp 11) (.const (.int .i64 16)), none⟩,
  ⟨some 2, .mv (.tmp 12), none⟩]
def o29_20 : List AOper := [⟨some 13, .mv (.tmp 0), none⟩,
  ⟨some 14, .bin .geq (.tmp 13) (.const (.int .u64 256)), none⟩]
def o29_23 : List AOper := [⟨some 15, .mv (.tmp 0), none⟩,
  ⟨some 16, .bin .shr (.tmp 15) (.const (.int .u64 8)), none⟩,
  ⟨some 0, .mv (.tmp 16), none⟩]
def o29_24 : List AOper := [⟨some 17, .mv (.tmp 2), none⟩,
  ⟨some 18, .bin .add (.tmp 17) (.const (.int .i64 8)), none⟩,
  ⟨some 2, .mv (.tmp 18), none⟩]
def o29_27 : List AOper := [⟨some 19, .mv (.tmp 2), none⟩,
  ⟨some 20, .mv (.tmp 0), none⟩,
  ⟨some 21, .conv .u8 (.tmp 20), none⟩,
  ⟨some 22, .indexStr (.const (.string (ByteArray.mk #[0, 1, 2, 2, 3, 3, 3, 3, 4, 4, 4, 4, 4, 4, 4, 4, 5, 5, 5, 5, 5, 5, 5, 5, 5, 5, 5, 5, 5, 5, 5, 5, 6, 6, 6, 6, 6, 6, 6, 6, 6, 6, 6, 6, 6, 6, 6, 6, 6, 6, 6, 6, 6, 6, 6, 6, 6, 6, 6, 6, 6, 6, 6, 6, 7, 7, 7, 7, 7, 7, 7, 7, 7, 7, 7, 7, 7, 7, 7, 7, 7, 7, 7, 7, 7, 7, 7, 7, 7, 7, 7, 7, 7, 7, 7, 7, 7, 7, 7, 7, 7, 7, 7, 7, 7, 7, 7, 7, 7, 7, 7, 7, 7, 7, 7, 7, 7, 7, 7, 7, 7, 7, 7, 7, 7, 7, 7, 7, 8, 8, 8, 8, 8, 8, 8, 8, 8, 8, 8, 8, 8, 8, 8, 8, 8, 8, 8, 8, 8, 8, 8, 8, 8, 8, 8, 8, 8, 8, 8, 8, 8, 8, 8, 8, 8, 8, 8, 8, 8, 8, 8, 8, 8, 8, 8, 8, 8, 8, 8, 8, 8, 8, 8, 8, 8, 8, 8, 8, 8, 8, 8, 8, 8, 8, 8, 8, 8, 8, 8, 8, 8, 8, 8, 8, 8, 8, 8, 8, 8, 8, 8, 8, 8, 8, 8, 8, 8, 8, 8, 8, 8, 8, 8, 8, 8, 8, 8, 8, 8, 8, 8, 8, 8, 8, 8, 8, 8, 8, 8, 8, 8, 8, 8, 8, 8, 8, 8, 8, 8, 8, 8, 8, 8, 8, 8, 8]))) (.tmp 21), none⟩,
  ⟨some 23, .conv .i64 (.tmp 22), none⟩,
  ⟨some 24, .bin .add (.tmp 19) (.tmp 23), none⟩,
  ⟨some 2, .mv (.tmp 24), none⟩]
def c29_26 : ACode := .seq (.ops o29_27) (.ret)
def c29_18 : ACode := .seq (.seq (.ops o29_20) (.cond (.tmp 14) (.seq (.ops o29_23) (.ops o29_24)) (.skip))) (.clear [1, 3, 4, 5, 6, 7, 8, 9, 10, 11, 12, 13, 14, 15, 16, 17, 18, 19, 20, 21, 22, 23, 24] c29_26)
def c29_10 : ACode := .seq (.seq (.ops o29_12) (.cond (.tmp 8) (.seq (.ops o29_15) (.ops o29_16)) (.skip))) (.clear [1, 3, 4, 5, 6, 7, 8, 9, 10, 11, 12, 13, 14, 15, 16, 17, 18, 19, 20, 21, 22, 23, 24] c29_18)
def c29_0 : ACode := .seq (.ops o29_1) (.seq (.seq (.ops o29_4) (.cond (.tmp 4) (.seq (.ops o29_7) (.ops o29_8)) (.skip))) (.clear [1, 3, 4, 5, 6, 7, 8, 9, 10, 11, 12, 13, 14, 15, 16, 17, 18, 19, 20, 21, 22, 23, 24] c29_10))
def a29 : AFun := ⟨25, [.tmp 2], c29_0⟩
theorem ok29 : OkFun Try.prog 29 a29 := ⟨Try.f29, Try.f29.body.getD .skip, Try.func29, by kernel_rfl, by kernel_rfl, by kernel_rfl, by kernel_rfl, by kernel_rfl⟩
/-! #### skylightref41.sides -/
def o30_1 : List AOper := [⟨some 6, .mv (.const (.bool false)), none⟩]
def o30_3 : List AOper := [⟨some 7, .mv (.tmp 0), none⟩,
  ⟨some 8, .bin .geq (.tmp 7) (.const (.int .i64 1)), none⟩,
  ⟨some 9, .mv (.tmp 8), none⟩,
  ⟨some 10, .mv (.tmp 0), some (9, true)⟩,
  ⟨some 11, .bin .leq (.tmp 10) (.const (.int .i64 256)), some (9, true)⟩,
  ⟨some 12, .pick (.tmp 9) (.tmp 11) (.const (.bool false)), none⟩,
  ⟨some 13, .mv (.tmp 12), none⟩,
  ⟨some 14, .mv (.tmp 1), some (13, true)⟩,
  ⟨some 15, .bin .geq (.tmp 14) (.const (.int .i64 1)), some (13, true)⟩,
  ⟨some 16, .pick (.tmp 13) (.tmp 15) (.const (.bool false)), none⟩,
  ⟨some 17, .mv (.tmp 16), none⟩,
  ⟨some 18, .mv (.tmp 1), some (17, true)⟩,
  ⟨some 19, .bin .leq (.tmp 18) (.const (.int .i64 256)), some (17, true)⟩,
  ⟨some 20, .pick (.tmp 17) (.tmp 19) (.const (.bool false)), none⟩,
  ⟨some 21, .mv (.tmp 20), none⟩,
  ⟨some 22, .mv (.tmp 2), some (21, true)⟩,
  ⟨some 23, .mv (.tmp 0), some (21, true)⟩,
  ⟨some 24, .mv (.tmp 1), some (21, true)⟩,
  ⟨some 25, .bin .mul (.tmp 23) (.tmp 24), some (21, true)⟩,
  ⟨some 26, .bin .eql (.tmp 22) (.tmp 25), some (21, true)⟩,
  ⟨some 27, .pick (.tmp 21) (.tmp 26) (.const (.bool false)), none⟩,
  ⟨some 6, .mv (.tmp 27), none⟩]
def c30_0 : ACode := .seq (.ops o30_1) (.seq (.ops o30_3) (.ret))
def a30 : AFun := ⟨28, [.tmp 6], c30_0⟩
theorem ok30 : OkFun Try.prog 30 a30 := ⟨Try.f30, Try.f30.body.getD .skip, Try.func30, by kernel_rfl, by kernel_rfl, by kernel_rfl, by kernel_rfl, by kernel_rfl⟩
/-! #### picture.bright -/
def o31_1 : List AOper := [⟨some 2, .mv (.const (.bool false)), none⟩]
def o31_3 : List AOper := [⟨some 3, .mv (.tmp 0), none⟩,
  ⟨some 4, .bin .leq (.const (.int .i64 0)) (.tmp 3), none⟩,
  ⟨some 5, .mv (.tmp 4), none⟩,
  ⟨some 6, .mv (.tmp 0), some (5, true)⟩,
  ⟨some 7, .bin .leq (.tmp 6) (.const (.int .i64 255)), some (5, true)⟩,
  ⟨some 8, .pick (.tmp 5) (.tmp 7) (.const (.bool false)), none⟩,
  ⟨some 2, .mv (.tmp 8), none⟩]
def c31_0 : ACode := .seq (.ops o31_1) (.seq (.ops o31_3) (.ret))
def a31 : AFun := ⟨9, [.tmp 2], c31_0⟩
theorem ok31 : OkFun Try.prog 31 a31 := ⟨Try.f31, Try.f31.body.getD .skip, Try.func31, by kernel_rfl, by kernel_rfl, by kernel_rfl, by kernel_rfl, by kernel_rfl⟩
/-! #### picture.sides -/
def o32_1 : List AOper := [⟨some 6, .mv (.const (.bool false)), none⟩]
def o32_3 : List AOper := [⟨some 7, .mv (.tmp 0), none⟩,
  ⟨some 8, .bin .leq (.const (.int .i64 1)) (.tmp 7), none⟩,
  ⟨some 9, .mv (.tmp 8), none⟩,
  ⟨some 10, .mv (.tmp 0), some (9, true)⟩,
  ⟨some 11, .bin .leq (.tmp 10) (.const (.int .i64 256)), some (9, true)⟩,
  ⟨some 12, .pick (.tmp 9) (.tmp 11) (.const (.bool false)), none⟩,
  ⟨some 13, .mv (.tmp 12), none⟩,
  ⟨some 14, .mv (.tmp 1), some (13, true)⟩,
  ⟨some 15, .bin .leq (.const (.int .i64 1)) (.tmp 14), some (13, true)⟩,
  ⟨some 16, .pick (.tmp 13) (.tmp 15) (.const (.bool false)), none⟩,
  ⟨some 17, .mv (.tmp 16), none⟩,
  ⟨some 18, .mv (.tmp 1), some (17, true)⟩,
  ⟨some 19, .bin .leq (.tmp 18) (.const (.int .i64 256)), some (17, true)⟩,
  ⟨some 20, .pick (.tmp 17) (.tmp 19) (.const (.bool false)), none⟩,
  ⟨some 21, .mv (.tmp 20), none⟩,
  ⟨some 22, .mv (.tmp 2), some (21, true)⟩,
  ⟨some 23, .mv (.tmp 0), some (21, true)⟩,
  ⟨some 24, .mv (.tmp 1), some (21, true)⟩,
  ⟨some 25, .bin .mul (.tmp 23) (.tmp 24), some (21, true)⟩,
  ⟨some 26, .bin .eql (.tmp 22) (.tmp 25), some (21, true)⟩,
  ⟨some 27, .pick (.tmp 21) (.tmp 26) (.const (.bool false)), none⟩,
  ⟨some 6, .mv (.tmp 27), none⟩]
def c32_0 : ACode := .seq (.ops o32_1) (.seq (.ops o32_3) (.ret))
def a32 : AFun := ⟨28, [.tmp 6], c32_0⟩
theorem ok32 : OkFun Try.prog 32 a32 := ⟨Try.f32, Try.f32.body.getD .skip, Try.func32, by kernel_rfl, by kernel_rfl, by kernel_rfl, by kernel_rfl, by kernel_rfl⟩
end Go.Proofs.Ytkjgmcjdblhkeaa
