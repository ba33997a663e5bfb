/- Functions as the interpreter takes them, and that the program's are so. -/
import Derived.Test.YtjmeilpffmhojaaAxRng
import Derived.Test.YtjmeilpffmhojaaProg
set_option linter.unusedVariables false
set_option maxRecDepth 100000
namespace Go.Proofs.Ytjmeilpffmhojaa
open Go Go.Ax
/-! #### skylightlaw35.BatchPlays -/
def o3_1 : List AOper := [⟨some 10, .mv (.const (.bool false)), none⟩]
def o3_4 : List AOper := [⟨some 35, .mv (.tmp 3), none⟩,
  ⟨some 36, .len (.tmp 35), none⟩,
  ⟨some 37, .bin .gtr (.tmp 36) (.const (.int .i64 80)), none⟩]
def o3_7 : List AOper := [⟨some 38, .call true (.func 10) [] [(false, [.bool])] true, none⟩,
  ⟨some 10, .mv (.tmp 38), none⟩]
def o3_11 : List AOper := [⟨some 40, .call false (.func 11) [.const (.int .i64 1)] [(true, [.slice, .int .i64, .int .i64]), (false, [.bool])] false, none⟩,
  ⟨some 39, .mv (.tmp 40), none⟩,
  ⟨some 41, .extract (.tmp 39) 0, none⟩,
  ⟨some 42, .extract (.tmp 39) 1, none⟩,
  ⟨some 11, .alloc [.slice none 0 0, .int .i64 0, .int .i64 0], none⟩,
  ⟨none, .store 3 (.tmp 11) (.tmp 41), none⟩,
  ⟨some 12, .mv (.tmp 42), none⟩]
def o3_13 : List AOper := [⟨some 43, .call false (.func 12) [.const (.int .i64 1)] [(false, [.ptr])] true, none⟩,
  ⟨some 13, .mv (.tmp 43), none⟩]
def o3_15 : List AOper := [⟨some 44, .mv (.tmp 4), none⟩,
  ⟨some 45, .call false (.func 13) [.tmp 11, .const (.int .i64 0), .const (.int .u64 0), .tmp 44] [(false, [.bool])] true, none⟩]
def o3_17 : List AOper := [⟨some 46, .mv (.tmp 13), none⟩,
  ⟨some 47, .mv (.tmp 4), none⟩,
  ⟨some 48, .call false (.func 14) [.tmp 46, .const (.int .i64 0), .const (.int .u64 0), .tmp 47] [(false, [.bool])] true, none⟩]
def o3_19 : List AOper := [⟨some 14, .mv (.const (.slice none 0 0)), none⟩]
def o3_21 : List AOper := [⟨some 15, .mv (.const (.slice none 0 0)), none⟩]
def o3_24 : List AOper := [⟨some 16, .mv (.const (.int .i64 0)), none⟩]
def o3_29 : List AOper := [⟨some 49, .mv (.tmp 16), none⟩,
  ⟨some 50, .mv (.tmp 2), none⟩,
  ⟨some 51, .conv .i64 (.tmp 50), none⟩,
  ⟨some 52, .bin .rem (.tmp 51) (.const (.int .i64 8)), none⟩,
  ⟨some 53, .bin .add (.const (.int .i64 1)) (.tmp 52), none⟩,
  ⟨some 54, .bin .lss (.tmp 49) (.tmp 53), none⟩]
def c3_30 : ACode := .cond (.tmp 54) (.skip) (.exit 0)
def o3_36 : List AOper := [⟨some 58, .mv (.tmp 0), none⟩,
  ⟨some 59, .mv (.tmp 1), none⟩,
  ⟨some 60, .call true (.func 15) [.tmp 58, .tmp 59] [(true, [.int .i64, .int .i64, .int .i64, .bool, .bool, .int .u64, .int .i64, .int .i64]), (false, [.bool])] false, none⟩,
  ⟨some 57, .mv (.tmp 60), none⟩,
  ⟨some 61, .extract (.tmp 57) 0, none⟩,
  ⟨some 62, .extract (.tmp 57) 1, none⟩,
  ⟨some 17, .alloc [.int .i64 0, .int .i64 0, .int .i64 0, .bool false, .bool false, .int .u64 0, .int .i64 0, .int .i64 0], none⟩,
  ⟨none, .store 8 (.tmp 17) (.tmp 61), none⟩,
  ⟨some 18, .mv (.tmp 62), none⟩]
def o3_38 : List AOper := [⟨some 63, .mv (.tmp 0), none⟩,
  ⟨some 64, .mv (.tmp 1), none⟩,
  ⟨some 65, .call false (.func 16) [.tmp 63, .tmp 64] [(false, [.ptr])] true, none⟩,
  ⟨some 19, .mv (.tmp 65), none⟩]
def o3_41 : List AOper := [⟨some 66, .mv (.tmp 19), none⟩,
  ⟨some 67, .eqNil 0 true (.tmp 66), none⟩,
  ⟨some 68, .mv (.tmp 18), none⟩,
  ⟨some 69, .binB true (.tmp 67) (.tmp 68), none⟩]
def o3_44 : List AOper := [⟨some 10, .mv (.const (.bool false)), none⟩]
def o3_48 : List AOper := [⟨some 70, .mv (.tmp 14), none⟩,
  ⟨some 71, .mv (.tmp 19), none⟩,
  ⟨some 72, .buildSlice 1 1 [.pointer none] [(0, 1, .tmp 71)], none⟩,
  ⟨some 73, .append 1 8 (.tmp 70) (.tmp 72), none⟩,
  ⟨some 14, .mv (.tmp 73), none⟩]
def o3_49 : List AOper := [⟨some 74, .mv (.tmp 15), none⟩,
  ⟨some 75, .load true [.int .i64, .int .i64, .int .i64, .bool, .bool, .int .u64, .int .i64, .int .i64] (.tmp 17), none⟩,
  ⟨some 76, .buildSlice 8 1 [.int .i64 0, .int .i64 0, .int .i64 0, .bool false, .bool false, .int .u64 0, .int .i64 0, .int .i64 0] [(0, 8, .tmp 75)], none⟩,
  ⟨some 77, .append 8 56 (.tmp 74) (.tmp 76), none⟩,
  ⟨some 15, .mv (.tmp 77), none⟩]
def o3_50 : List AOper := [⟨some 55, .mv (.tmp 16), none⟩,
  ⟨some 56, .bin .add (.tmp 55) (.const (.int .i64 1)), none⟩,
  ⟨some 16, .mv (.tmp 56), none⟩]
def c3_50 : ACode := .ops o3_50
def b3_26 : ACode := .post (.seq (.seq (.ops o3_29) (.clear [4, 5, 6, 7, 8, 9, 10, 12, 17, 18, 19, 20, 21, 22, 23, 24, 25, 26, 27, 28, 29, 30, 31, 32, 33, 34, 35, 36, 37, 38, 39, 40, 41, 42, 43, 44, 45, 46, 47, 48, 49, 50, 51, 52, 53, 55, 56, 57, 58, 59, 60, 61, 62, 63, 64, 65, 66, 67, 68, 69, 70, 71, 72, 73, 74, 75, 76, 77, 78, 79, 80, 81, 82, 83, 84, 85, 86, 87, 88, 89, 90, 91, 92, 93, 94, 95, 96, 97, 98, 99, 100, 101, 102, 103, 104, 105, 106, 107, 108, 109, 110, 111, 112, 113, 114, 115, 116, 117, 118, 119, 120, 121, 122, 123, 124, 125, 126, 127, 128, 129, 130, 131, 132, 133, 134, 135, 136, 137, 138, 139, 140, 141, 142, 143, 144, 145, 146, 147, 148, 149, 150, 151, 152, 153, 154, 155, 156, 157, 158, 159, 160, 161, 162, 163, 164, 165, 166, 167, 168, 169, 170, 171, 172, 173, 174, 175, 176, 177, 178, 179, 180, 181, 182, 183, 184, 185, 186, 187, 188, 189, 190, 191, 192, 193, 194, 195, 196, 197, 198, 199, 200, 201, 202, 203, 204, 205, 206, 207, 208, 209, 210, 211, 212, 213, 214, 215, 216, 217, 218, 219, 220, 221, 222, 223, 224, 225, 226, 227, 228, 229, 230, 231, 232, 233, 234, 235, 236, 237, 238, 239, 240, 241, 242, 243, 244, 245, 246, 247, 248, 249, 250, 251, 252] c3_30)) (.seq (.block 1 (.seq (.ops o3_36) (.seq (.ops o3_38) (.seq (.seq (.ops o3_41) (.cond (.tmp 69) (.seq (.ops o3_44) (.ret)) (.skip))) (.seq (.ops o3_48) (.ops o3_49)))))) (.clear [4, 5, 6, 7, 8, 9, 10, 12, 17, 18, 19, 20, 21, 22, 23, 24, 25, 26, 27, 28, 29, 30, 31, 32, 33, 34, 35, 36, 37, 38, 39, 40, 41, 42, 43, 44, 45, 46, 47, 48, 49, 50, 51, 52, 53, 54, 55, 56, 57, 58, 59, 60, 61, 62, 63, 64, 65, 66, 67, 68, 69, 70, 71, 72, 73, 74, 75, 76, 77, 78, 79, 80, 81, 82, 83, 84, 85, 86, 87, 88, 89, 90, 91, 92, 93, 94, 95, 96, 97, 98, 99, 100, 101, 102, 103, 104, 105, 106, 107, 108, 109, 110, 111, 112, 113, 114, 115, 116, 117, 118, 119, 120, 121, 122, 123, 124, 125, 126, 127, 128, 129, 130, 131, 132, 133, 134, 135, 136, 137, 138, 139, 140, 141, 142, 143, 144, 145, 146, 147, 148, 149, 150, 151, 152, 153, 154, 155, 156, 157, 158, 159, 160, 161, 162, 163, 164, 165, 166, 167, 168, 169, 170, 171, 172, 173, 174, 175, 176, 177, 178, 179, 180, 181, 182, 183, 184, 185, 186, 187, 188, 189, 190, 191, 192, 193, 194, 195, 196, 197, 198, 199, 200, 201, 202, 203, 204, 205, 206, 207, 208, 209, 210, 211, 212, 213, 214, 215, 216, 217, 218, 219, 220, 221, 222, 223, 224, 225, 226, 227, 228, 229, 230, 231, 232, 233, 234, 235, 236, 237, 238, 239, 240, 241, 242, 243, 244, 245, 246, 247, 248, 249, 250, 251, 252] c3_50))) [4, 5, 6, 7, 8, 9, 10, 12, 17, 18, 19, 20, 21, 22, 23, 24, 25, 26, 27, 28, 29, 30, 31, 32, 33, 34, 35, 36, 37, 38, 39, 40, 41, 42, 43, 44, 45, 46, 47, 48, 49, 50, 51, 52, 53, 54, 55, 56, 57, 58, 59, 60, 61, 62, 63, 64, 65, 66, 67, 68, 69, 70, 71, 72, 73, 74, 75, 76, 77, 78, 79, 80, 81, 82, 83, 84, 85, 86, 87, 88, 89, 90, 91, 92, 93, 94, 95, 96, 97, 98, 99, 100, 101, 102, 103, 104, 105, 106, 107, 108, 109, 110, 111, 112, 113, 114, 115, 116, 117, 118, 119, 120, 121, 122, 123, 124, 125, 126, 127, 128, 129, 130, 131, 132, 133, 134, 135, 136, 137, 138, 139, 140, 141, 142, 143, 144, 145, 146, 147, 148, 149, 150, 151, 152, 153, 154, 155, 156, 157, 158, 159, 160, 161, 162, 163, 164, 165, 166, 167, 168, 169, 170, 171, 172, 173, 174, 175, 176, 177, 178, 179, 180, 181, 182, 183, 184, 185, 186, 187, 188, 189, 190, 191, 192, 193, 194, 195, 196, 197, 198, 199, 200, 201, 202, 203, 204, 205, 206, 207, 208, 209, 210, 211, 212, 213, 214, 215, 216, 217, 218, 219, 220, 221, 222, 223, 224, 225, 226, 227, 228, 229, 230, 231, 232, 233, 234, 235, 236, 237, 238, 239, 240, 241, 242, 243, 244, 245, 246, 247, 248, 249, 250, 251, 252]
def o3_53 : List AOper := [⟨some 20, .mv (.const (.int .i64 0)), none⟩]
def o3_58 : List AOper := [⟨some 78, .mv (.tmp 20), none⟩,
  ⟨some 79, .mv (.tmp 3), none⟩,
  ⟨some 80, .len (.tmp 79), none⟩,
  ⟨some 81, .bin .lss (.tmp 78) (.tmp 80), none⟩]
def o3_65 : List AOper := [⟨some 84, .mv (.tmp 3), none⟩,
  ⟨some 85, .mv (.tmp 20), none⟩,
  ⟨some 86, .indexAddr 1 (.tmp 84) (.tmp 85), none⟩,
  ⟨some 87, .load false [.int .u8] (.tmp 86), none⟩,
  ⟨some 88, .conv .i64 (.tmp 87), none⟩,
  ⟨some 89, .mv (.tmp 14), none⟩,
  ⟨some 90, .len (.tmp 89), none⟩,
  ⟨some 91, .bin .rem (.tmp 88) (.tmp 90), none⟩,
  ⟨some 21, .mv (.tmp 91), none⟩]
def o3_68 : List (AOper × Option Nat) := [(⟨some 92, .mv (.tmp 14), none⟩, none),
  (⟨some 93, .mv (.tmp 21), none⟩, none),
  (⟨some 94, .indexAddr 1 (.tmp 92) (.tmp 93), none⟩, none),
  (⟨some 95, .load false [.ptr] (.tmp 94), none⟩, none),
  (⟨some 96, .mv (.tmp 13), none⟩, none),
  (⟨some 97, .call false (.func 17) [.tmp 95, .tmp 96] [(false, [.bool])] true, none⟩, none),
  (⟨some 98, .mv (.tmp 15), none⟩, none),
  (⟨some 99, .mv (.tmp 21), none⟩, none),
  (⟨some 100, .indexAddr 8 (.tmp 98) (.tmp 99), none⟩, none),
  (⟨some 101, .call false (.func 18) [.tmp 100, .tmp 11] [(false, [.bool])] true, none⟩, none),
  (⟨some 102, .binB true (.tmp 97) (.tmp 101), none⟩, none),
  (⟨some 103, .mv (.tmp 102), none⟩, none),
  (⟨some 104, .mv (.tmp 14), some (103, false)⟩, none),
  (⟨some 105, .mv (.tmp 21), some (103, false)⟩, none),
  (⟨some 106, .indexAddr 1 (.tmp 104) (.tmp 105), some (103, false)⟩, none),
  (⟨some 107, .load false [.ptr] (.tmp 106), some (103, false)⟩, none),
  (⟨some 108, .call false (.func 19) [.tmp 107] [(false, [.bool])] true, some (103, false)⟩, none),
  (⟨some 109, .mv (.tmp 15), some (103, false)⟩, none),
  (⟨some 110, .mv (.tmp 21), some (103, false)⟩, none),
  (⟨some 111, .indexAddr 8 (.tmp 109) (.tmp 110), some (103, false)⟩, none),
  (⟨some 112, .fieldAddr 4 (.tmp 111), some (103, false)⟩, none),
  (⟨some 113, .load false [.bool] (.tmp 112), some (103, false)⟩, none),
  (⟨some 114, .binB true (.tmp 108) (.tmp 113), some (103, false)⟩, none),
  (⟨some 115, .pick (.tmp 103) (.const (.bool true)) (.tmp 114), none⟩, none),
  (⟨some 116, .mv (.tmp 115), none⟩, none),
  (⟨some 117, .mv (.tmp 14), some (116, false)⟩, none),
  (⟨some 118, .mv (.tmp 21), some (116, false)⟩, none),
  (⟨some 119, .indexAddr 1 (.tmp 117) (.tmp 118), some (116, false)⟩, none),
  (⟨some 120, .load false [.ptr] (.tmp 119), some (116, false)⟩, none),
  (⟨some 121, .call false (.func 20) [.tmp 120] [(false, [.int .i64])] true, some (116, false)⟩, none),
  (⟨some 122, .mv (.tmp 15), some (116, false)⟩, none),
  (⟨some 123, .mv (.tmp 21), some (116, false)⟩, none),
  (⟨some 124, .indexAddr 8 (.tmp 122) (.tmp 123), some (116, false)⟩, none),
  (⟨some 125, .fieldAddr 2 (.tmp 124), some (116, false)⟩, none),
  (⟨some 126, .load false [.int .i64] (.tmp 125), some (116, false)⟩, none),
  (⟨some 127, .bin .neq (.tmp 121) (.tmp 126), some (116, false)⟩, none),
  (⟨some 128, .pick (.tmp 116) (.const (.bool true)) (.tmp 127), none⟩, none)]
def o3_71 : List AOper := [⟨some 10, .mv (.const (.bool false)), none⟩]
def c3_69 : ACode := .cond (.tmp 128) (.seq (.ops o3_71) (.ret)) (.skip)
def o3_75 : List AOper := [⟨some 130, .mv (.tmp 14), none⟩,
  ⟨some 131, .mv (.tmp 21), none⟩,
  ⟨some 132, .indexAddr 1 (.tmp 130) (.tmp 131), none⟩,
  ⟨some 133, .load false [.ptr] (.tmp 132), none⟩,
  ⟨some 134, .call false (.func 21) [.tmp 133] [(false, [.int .i64]), (false, [.int .i64]), (false, [.bool])] false, none⟩,
  ⟨some 129, .mv (.tmp 134), none⟩,
  ⟨some 135, .extract (.tmp 129) 0, none⟩,
  ⟨some 136, .extract (.tmp 129) 1, none⟩,
  ⟨some 137, .extract (.tmp 129) 2, none⟩,
  ⟨some 22, .mv (.tmp 135), none⟩,
  ⟨some 23, .mv (.tmp 136), none⟩,
  ⟨some 24, .mv (.tmp 137), none⟩]
def o3_77 : List (AOper × Option Nat) := [(⟨some 138, .mv (.tmp 22), none⟩, none),
  (⟨some 139, .mv (.tmp 15), none⟩, none),
  (⟨some 140, .mv (.tmp 21), none⟩, none),
  (⟨some 141, .indexAddr 8 (.tmp 139) (.tmp 140), none⟩, none),
  (⟨some 142, .fieldAddr 6 (.tmp 141), none⟩, none),
  (⟨some 143, .load false [.int .i64] (.tmp 142), none⟩, none),
  (⟨some 144, .bin .neq (.tmp 138) (.tmp 143), none⟩, none),
  (⟨some 145, .mv (.tmp 144), none⟩, none),
  (⟨some 146, .mv (.tmp 23), some (145, false)⟩, none),
  (⟨some 147, .mv (.tmp 15), some (145, false)⟩, none),
  (⟨some 148, .mv (.tmp 21), some (145, false)⟩, none),
  (⟨some 149, .indexAddr 8 (.tmp 147) (.tmp 148), some (145, false)⟩, none),
  (⟨some 150, .fieldAddr 7 (.tmp 149), some (145, false)⟩, none),
  (⟨some 151, .load false [.int .i64] (.tmp 150), some (145, false)⟩, none),
  (⟨some 152, .bin .neq (.tmp 146) (.tmp 151), some (145, false)⟩, none),
  (⟨some 153, .pick (.tmp 145) (.const (.bool true)) (.tmp 152), none⟩, none),
  (⟨some 154, .mv (.tmp 153), none⟩, none),
  (⟨some 155, .mv (.tmp 24), some (154, false)⟩, none),
  (⟨some 156, .mv (.tmp 15), some (154, false)⟩, none),
  (⟨some 157, .mv (.tmp 21), some (154, false)⟩, none),
  (⟨some 158, .indexAddr 8 (.tmp 156) (.tmp 157), some (154, false)⟩, none),
  (⟨some 159, .fieldAddr 6 (.tmp 158), some (154, false)⟩, none),
  (⟨some 160, .load false [.int .i64] (.tmp 159), some (154, false)⟩, none),
  (⟨some 161, .mv (.tmp 15), some (154, false)⟩, none),
  (⟨some 162, .mv (.tmp 21), some (154, false)⟩, none),
  (⟨some 163, .indexAddr 8 (.tmp 161) (.tmp 162), some (154, false)⟩, none),
  (⟨some 164, .fieldAddr 7 (.tmp 163), some (154, false)⟩, none),
  (⟨some 165, .load false [.int .i64] (.tmp 164), some (154, false)⟩, none),
  (⟨some 166, .bin .lss (.tmp 160) (.tmp 165), some (154, false)⟩, none),
  (⟨some 167, .binB true (.tmp 155) (.tmp 166), some (154, false)⟩, none),
  (⟨some 168, .pick (.tmp 154) (.const (.bool true)) (.tmp 167), none⟩, none)]
def o3_80 : List AOper := [⟨some 10, .mv (.const (.bool false)), none⟩]
def c3_78 : ACode := .cond (.tmp 168) (.seq (.ops o3_80) (.ret)) (.skip)
def o3_83 : List AOper := [⟨some 82, .mv (.tmp 20), none⟩,
  ⟨some 83, .bin .add (.tmp 82) (.const (.int .i64 1)), none⟩,
  ⟨some 20, .mv (.tmp 83), none⟩]
def c3_83 : ACode := .ops o3_83
def b3_55 : ACode := .post (.seq (.seq (.ops o3_58) (.cond (.tmp 81) (.skip) (.exit 2))) (.seq (.block 3 (.seq (.ops o3_65) (.seq (.seq (.draw [] 0 o3_68 [(21, 16), (34, 29)]) (.clear [2, 4, 5, 6, 7, 8, 9, 10, 12, 16, 17, 18, 19, 22, 23, 24, 25, 26, 27, 28, 29, 30, 31, 32, 33, 34, 35, 36, 37, 38, 39, 40, 41, 42, 43, 44, 45, 46, 47, 48, 49, 50, 51, 52, 53, 54, 55, 56, 57, 58, 59, 60, 61, 62, 63, 64, 65, 66, 67, 68, 69, 70, 71, 72, 73, 74, 75, 76, 77, 78, 79, 80, 81, 82, 83, 84, 85, 86, 87, 88, 89, 90, 91, 92, 93, 94, 95, 96, 97, 98, 99, 100, 101, 102, 103, 104, 105, 106, 107, 108, 109, 110, 111, 112, 113, 114, 115, 116, 117, 118, 119, 120, 121, 122, 123, 124, 125, 126, 127, 129, 130, 131, 132, 133, 134, 135, 136, 137, 138, 139, 140, 141, 142, 143, 144, 145, 146, 147, 148, 149, 150, 151, 152, 153, 154, 155, 156, 157, 158, 159, 160, 161, 162, 163, 164, 165, 166, 167, 168, 169, 170, 171, 172, 173, 174, 175, 176, 177, 178, 179, 180, 181, 182, 183, 184, 185, 186, 187, 188, 189, 190, 191, 192, 193, 194, 195, 196, 197, 198, 199, 200, 201, 202, 203, 204, 205, 206, 207, 208, 209, 210, 211, 212, 213, 214, 215, 216, 217, 218, 219, 220, 221, 222, 223, 224, 225, 226, 227, 228, 229, 230, 231, 232, 233, 234, 235, 236, 237, 238, 239, 240, 241, 242, 243, 244, 245, 246, 247, 248, 249, 250, 251, 252] c3_69)) (.seq (.ops o3_75) (.seq (.draw [] 0 o3_77 []) (.clear [2, 4, 5, 6, 7, 8, 9, 10, 12, 16, 17, 18, 19, 21, 22, 23, 24, 25, 26, 27, 28, 29, 30, 31, 32, 33, 34, 35, 36, 37, 38, 39, 40, 41, 42, 43, 44, 45, 46, 47, 48, 49, 50, 51, 52, 53, 54, 55, 56, 57, 58, 59, 60, 61, 62, 63, 64, 65, 66, 67, 68, 69, 70, 71, 72, 73, 74, 75, 76, 77, 78, 79, 80, 81, 82, 83, 84, 85, 86, 87, 88, 89, 90, 91, 92, 93, 94, 95, 96, 97, 98, 99, 100, 101, 102, 103, 104, 105, 106, 107, 108, 109, 110, 111, 112, 113, 114, 115, 116, 117, 118, 119, 120, 121, 122, 123, 124, 125, 126, 127, 128, 129, 130, 131, 132, 133, 134, 135, 136, 137, 138, 139, 140, 141, 142, 143, 144, 145, 146, 147, 148, 149, 150, 151, 152, 153, 154, 155, 156, 157, 158, 159, 160, 161, 162, 163, 164, 165, 166, 167, 169, 170, 171, 172, 173, 174, 175, 176, 177, 178, 179, 180, 181, 182, 183, 184, 185, 186, 187, 188, 189, 190, 191, 192, 193, 194, 195, 196, 197, 198, 199, 200, 201, 202, 203, 204, 205, 206, 207, 208, 209, 210, 211, 212, 213, 214, 215, 216, 217, 218, 219, 220, 221, 222, 223, 224, 225, 226, 227, 228, 229, 230, 231, 232, 233, 234, 235, 236, 237, 238, 239, 240, 241, 242, 243, 244, 245, 246, 247, 248, 249, 250, 251, 252] c3_78)))))) (.clear [2, 4, 5, 6, 7, 8, 9, 10, 12, 16, 17, 18, 19, 21, 22, 23, 24, 25, 26, 27, 28, 29, 30, 31, 32, 33, 34, 35, 36, 37, 38, 39, 40, 41, 42, 43, 44, 45, 46, 47, 48, 49, 50, 51, 52, 53, 54, 55, 56, 57, 58, 59, 60, 61, 62, 63, 64, 65, 66, 67, 68, 69, 70, 71, 72, 73, 74, 75, 76, 77, 78, 79, 80, 81, 82, 83, 84, 85, 86, 87, 88, 89, 90, 91, 92, 93, 94, 95, 96, 97, 98, 99, 100, 101, 102, 103, 104, 105, 106, 107, 108, 109, 110, 111, 112, 113, 114, 115, 116, 117, 118, 119, 120, 121, 122, 123, 124, 125, 126, 127, 128, 129, 130, 131, 132, 133, 134, 135, 136, 137, 138, 139, 140, 141, 142, 143, 144, 145, 146, 147, 148, 149, 150, 151, 152, 153, 154, 155, 156, 157, 158, 159, 160, 161, 162, 163, 164, 165, 166, 167, 168, 169, 170, 171, 172, 173, 174, 175, 176, 177, 178, 179, 180, 181, 182, 183, 184, 185, 186, 187, 188, 189, 190, 191, 192, 193, 194, 195, 196, 197, 198, 199, 200, 201, 202, 203, 204, 205, 206, 207, 208, 209, 210, 211, 212, 213, 214, 215, 216, 217, 218, 219, 220, 221, 222, 223, 224, 225, 226, 227, 228, 229, 230, 231, 232, 233, 234, 235, 236, 237, 238, 239, 240, 241, 242, 243, 244, 245, 246, 247, 248, 249, 250, 251, 252] c3_83))) [2, 4, 5, 6, 7, 8, 9, 10, 12, 16, 17, 18, 19, 21, 22, 23, 24, 25, 26, 27, 28, 29, 30, 31, 32, 33, 34, 35, 36, 37, 38, 39, 40, 41, 42, 43, 44, 45, 46, 47, 48, 49, 50, 51, 52, 53, 54, 55, 56, 57, 58, 59, 60, 61, 62, 63, 64, 65, 66, 67, 68, 69, 70, 71, 72, 73, 74, 75, 76, 77, 78, 79, 80, 81, 82, 83, 84, 85, 86, 87, 88, 89, 90, 91, 92, 93, 94, 95, 96, 97, 98, 99, 100, 101, 102, 103, 104, 105, 106, 107, 108, 109, 110, 111, 112, 113, 114, 115, 116, 117, 118, 119, 120, 121, 122, 123, 124, 125, 126, 127, 128, 129, 130, 131, 132, 133, 134, 135, 136, 137, 138, 139, 140, 141, 142, 143, 144, 145, 146, 147, 148, 149, 150, 151, 152, 153, 154, 155, 156, 157, 158, 159, 160, 161, 162, 163, 164, 165, 166, 167, 168, 169, 170, 171, 172, 173, 174, 175, 176, 177, 178, 179, 180, 181, 182, 183, 184, 185, 186, 187, 188, 189, 190, 191, 192, 193, 194, 195, 196, 197, 198, 199, 200, 201, 202, 203, 204, 205, 206, 207, 208, 209, 210, 211, 212, 213, 214, 215, 216, 217, 218, 219, 220, 221, 222, 223, 224, 225, 226, 227, 228, 229, 230, 231, 232, 233, 234, 235, 236, 237, 238, 239, 240, 241, 242, 243, 244, 245, 246, 247, 248, 249, 250, 251, 252]
def o3_85 : List AOper := [⟨some 170, .mv (.tmp 13), none⟩,
  ⟨some 171, .call false (.func 22) [.tmp 170, .const (.int .i64 0)] [(false, [.int .u64]), (false, [.bool])] false, none⟩,
  ⟨some 169, .mv (.tmp 171), none⟩,
  ⟨some 172, .extract (.tmp 169) 0, none⟩,
  ⟨some 173, .extract (.tmp 169) 1, none⟩,
  ⟨some 25, .mv (.tmp 172), none⟩,
  ⟨some 26, .mv (.tmp 173), none⟩]
def o3_87 : List AOper := [⟨some 27, .mv (.const (.pointer none)), none⟩]
def o3_89 : List AOper := [⟨some 174, .build [.int .i64 0, .int .i64 0, .nilFunc, .bool false, .int .u64 0, .int .i64 0, .int .i64 0, .int .i64 0] [], none⟩,
  ⟨some 175, .box (.tmp 174), none⟩,
  ⟨some 28, .mv (.tmp 175), none⟩]
def o3_91 : List AOper := [⟨some 177, .mv (.tmp 27), none⟩,
  ⟨some 178, .call false (.func 21) [.tmp 177] [(false, [.int .i64]), (false, [.int .i64]), (false, [.bool])] false, none⟩,
  ⟨some 176, .mv (.tmp 178), none⟩,
  ⟨some 179, .extract (.tmp 176) 0, none⟩,
  ⟨some 180, .extract (.tmp 176) 1, none⟩,
  ⟨some 181, .extract (.tmp 176) 2, none⟩,
  ⟨some 29, .mv (.tmp 179), none⟩,
  ⟨some 30, .mv (.tmp 180), none⟩,
  ⟨some 31, .mv (.tmp 181), none⟩]
def o3_93 : List AOper := [⟨some 183, .mv (.tmp 28), none⟩,
  ⟨some 184, .call false (.func 21) [.tmp 183] [(false, [.int .i64]), (false, [.int .i64]), (false, [.bool])] false, none⟩,
  ⟨some 182, .mv (.tmp 184), none⟩,
  ⟨some 185, .extract (.tmp 182) 0, none⟩,
  ⟨some 186, .extract (.tmp 182) 1, none⟩,
  ⟨some 187, .extract (.tmp 182) 2, none⟩,
  ⟨some 32, .mv (.tmp 185), none⟩,
  ⟨some 33, .mv (.tmp 186), none⟩,
  ⟨some 34, .mv (.tmp 187), none⟩]
def o3_96 : List AOper := [⟨some 188, .mv (.tmp 31), none⟩,
  ⟨some 189, .mv (.tmp 188), none⟩,
  ⟨some 190, .mv (.tmp 34), some (189, false)⟩,
  ⟨some 191, .pick (.tmp 189) (.const (.bool true)) (.tmp 190), none⟩,
  ⟨some 192, .mv (.tmp 191), none⟩,
  ⟨some 193, .mv (.tmp 27), some (192, false)⟩,
  ⟨some 194, .call false (.func 19) [.tmp 193] [(false, [.bool])] true, some (192, false)⟩,
  ⟨some 195, .pick (.tmp 192) (.const (.bool true)) (.tmp 194), none⟩,
  ⟨some 196, .mv (.tmp 195), none⟩,
  ⟨some 197, .mv (.tmp 28), some (196, false)⟩,
  ⟨some 198, .call false (.func 19) [.tmp 197] [(false, [.bool])] true, some (196, false)⟩,
  ⟨some 199, .pick (.tmp 196) (.const (.bool true)) (.tmp 198), none⟩,
  ⟨some 200, .mv (.tmp 199), none⟩,
  ⟨some 201, .mv (.tmp 27), some (200, false)⟩,
  ⟨some 202, .mv (.tmp 13), some (200, false)⟩,
  ⟨some 203, .call false (.func 17) [.tmp 201, .tmp 202] [(false, [.bool])] true, some (200, false)⟩,
  ⟨some 204, .pick (.tmp 200) (.const (.bool true)) (.tmp 203), none⟩,
  ⟨some 205, .mv (.tmp 204), none⟩,
  ⟨some 206, .mv (.tmp 28), some (205, false)⟩,
  ⟨some 207, .mv (.tmp 13), some (205, false)⟩,
  ⟨some 208, .call false (.func 17) [.tmp 206, .tmp 207] [(false, [.bool])] true, some (205, false)⟩,
  ⟨some 209, .pick (.tmp 205) (.const (.bool true)) (.tmp 208), none⟩,
  ⟨some 210, .mv (.tmp 209), none⟩,
  ⟨some 211, .mv (.tmp 27), some (210, false)⟩,
  ⟨some 212, .call false (.func 20) [.tmp 211] [(false, [.int .i64])] true, some (210, false)⟩,
  ⟨some 213, .mv (.tmp 28), some (210, false)⟩,
  ⟨some 214, .call false (.func 20) [.tmp 213] [(false, [.int .i64])] true, some (210, false)⟩,
  ⟨some 215, .bin .add (.tmp 212) (.tmp 214), some (210, false)⟩,
  ⟨some 216, .bin .neq (.tmp 215) (.const (.int .i64 0)), some (210, false)⟩,
  ⟨some 217, .pick (.tmp 210) (.const (.bool true)) (.tmp 216), none⟩]
def o3_99 : List AOper := [⟨some 10, .mv (.const (.bool false)), none⟩]
def c3_97 : ACode := .cond (.tmp 217) (.seq (.ops o3_99) (.ret)) (.skip)
def o3_104 : List AOper := [⟨some 218, .mv (.tmp 1), none⟩,
  ⟨some 219, .bin .gtr (.tmp 218) (.const (.int .i64 0)), none⟩,
  ⟨some 220, .mv (.tmp 219), none⟩,
  ⟨some 221, .mv (.tmp 0), some (220, true)⟩,
  ⟨some 222, .mv (.tmp 1), some (220, true)⟩,
  ⟨some 223, .bin .quo (.tmp 221) (.tmp 222), some (220, true)⟩,
  ⟨some 224, .bin .gtr (.tmp 223) (.const (.int .i64 100)), some (220, true)⟩,
  ⟨some 225, .pick (.tmp 220) (.tmp 224) (.const (.bool false)), none⟩]
def o3_107 : List AOper := [⟨some 226, .mv (.tmp 25), none⟩,
  ⟨some 227, .fieldAddr 0 (.tmp 11), none⟩,
  ⟨some 228, .load false [.slice] (.tmp 227), none⟩,
  ⟨some 229, .indexAddr 1 (.tmp 228) (.const (.int .i64 0)), none⟩,
  ⟨some 230, .load false [.int .u64] (.tmp 229), none⟩,
  ⟨some 231, .bin .eql (.tmp 226) (.tmp 230), none⟩,
  ⟨some 232, .mv (.tmp 231), none⟩,
  ⟨some 233, .call true (.func 10) [] [(false, [.bool])] true, some (232, true)⟩,
  ⟨some 234, .pick (.tmp 232) (.tmp 233) (.const (.bool false)), none⟩,
  ⟨some 10, .mv (.tmp 234), none⟩]
def o3_111 : List AOper := [⟨some 235, .mv (.tmp 25), none⟩,
  ⟨some 236, .fieldAddr 0 (.tmp 11), none⟩,
  ⟨some 237, .load false [.slice] (.tmp 236), none⟩,
  ⟨some 238, .indexAddr 1 (.tmp 237) (.const (.int .i64 0)), none⟩,
  ⟨some 239, .load false [.int .u64] (.tmp 238), none⟩,
  ⟨some 240, .bin .eql (.tmp 235) (.tmp 239), none⟩,
  ⟨some 241, .mv (.tmp 240), none⟩,
  ⟨some 242, .mv (.tmp 0), some (241, true)⟩,
  ⟨some 243, .mv (.tmp 1), some (241, true)⟩,
  ⟨some 244, .call true (.func 23) [.tmp 242, .tmp 243] [(false, [.int .i64])] true, some (241, true)⟩,
  ⟨some 245, .mv (.tmp 0), some (241, true)⟩,
  ⟨some 246, .mv (.tmp 1), some (241, true)⟩,
  ⟨some 247, .call true (.func 24) [.tmp 245, .tmp 246] [(false, [.int .i64])] true, some (241, true)⟩,
  ⟨some 248, .bin .eql (.tmp 244) (.tmp 247), some (241, true)⟩,
  ⟨some 249, .pick (.tmp 241) (.tmp 248) (.const (.bool false)), none⟩,
  ⟨some 250, .mv (.tmp 249), none⟩,
  ⟨some 251, .call true (.func 10) [] [(false, [.bool])] true, some (250, true)⟩,
  ⟨some 252, .pick (.tmp 250) (.tmp 251) (.const (.bool false)), none⟩,
  ⟨some 10, .mv (.tmp 252), none⟩]
def c3_94 : ACode := .seq (.seq (.ops o3_96) (.clear [2, 3, 4, 5, 6, 7, 8, 9, 10, 12, 13, 14, 15, 16, 17, 18, 19, 20, 21, 22, 23, 24, 26, 27, 28, 29, 30, 31, 32, 33, 34, 35, 36, 37, 38, 39, 40, 41, 42, 43, 44, 45, 46, 47, 48, 49, 50, 51, 52, 53, 54, 55, 56, 57, 58, 59, 60, 61, 62, 63, 64, 65, 66, 67, 68, 69, 70, 71, 72, 73, 74, 75, 76, 77, 78, 79, 80, 81, 82, 83, 84, 85, 86, 87, 88, 89, 90, 91, 92, 93, 94, 95, 96, 97, 98, 99, 100, 101, 102, 103, 104, 105, 106, 107, 108, 109, 110, 111, 112, 113, 114, 115, 116, 117, 118, 119, 120, 121, 122, 123, 124, 125, 126, 127, 128, 129, 130, 131, 132, 133, 134, 135, 136, 137, 138, 139, 140, 141, 142, 143, 144, 145, 146, 147, 148, 149, 150, 151, 152, 153, 154, 155, 156, 157, 158, 159, 160, 161, 162, 163, 164, 165, 166, 167, 168, 169, 170, 171, 172, 173, 174, 175, 176, 177, 178, 179, 180, 181, 182, 183, 184, 185, 186, 187, 188, 189, 190, 191, 192, 193, 194, 195, 196, 197, 198, 199, 200, 201, 202, 203, 204, 205, 206, 207, 208, 209, 210, 211, 212, 213, 214, 215, 216, 218, 219, 220, 221, 222, 223, 224, 225, 226, 227, 228, 229, 230, 231, 232, 233, 234, 235, 236, 237, 238, 239, 240, 241, 242, 243, 244, 245, 246, 247, 248, 249, 250, 251, 252] c3_97)) (.seq (.seq (.ops o3_104) (.cond (.tmp 225) (.seq (.ops o3_107) (.ret)) (.skip))) (.seq (.ops o3_111) (.ret)))
def c3_84 : ACode := .seq (.ops o3_85) (.seq (.ops o3_87) (.seq (.ops o3_89) (.seq (.ops o3_91) (.seq (.ops o3_93) (.clear [2, 3, 4, 5, 6, 7, 8, 9, 10, 12, 14, 15, 16, 17, 18, 19, 20, 21, 22, 23, 24, 26, 29, 30, 32, 33, 35, 36, 37, 38, 39, 40, 41, 42, 43, 44, 45, 46, 47, 48, 49, 50, 51, 52, 53, 54, 55, 56, 57, 58, 59, 60, 61, 62, 63, 64, 65, 66, 67, 68, 69, 70, 71, 72, 73, 74, 75, 76, 77, 78, 79, 80, 81, 82, 83, 84, 85, 86, 87, 88, 89, 90, 91, 92, 93, 94, 95, 96, 97, 98, 99, 100, 101, 102, 103, 104, 105, 106, 107, 108, 109, 110, 111, 112, 113, 114, 115, 116, 117, 118, 119, 120, 121, 122, 123, 124, 125, 126, 127, 128, 129, 130, 131, 132, 133, 134, 135, 136, 137, 138, 139, 140, 141, 142, 143, 144, 145, 146, 147, 148, 149, 150, 151, 152, 153, 154, 155, 156, 157, 158, 159, 160, 161, 162, 163, 164, 165, 166, 167, 168, 169, 170, 171, 172, 173, 174, 175, 176, 177, 178, 179, 180, 181, 182, 183, 184, 185, 186, 187, 188, 189, 190, 191, 192, 193, 194, 195, 196, 197, 198, 199, 200, 201, 202, 203, 204, 205, 206, 207, 208, 209, 210, 211, 212, 213, 214, 215, 216, 217, 218, 219, 220, 221, 222, 223, 224, 225, 226, 227, 228, 229, 230, 231, 232, 233, 234, 235, 236, 237, 238, 239, 240, 241, 242, 243, 244, 245, 246, 247, 248, 249, 250, 251, 252] c3_94)))))
def c3_51 : ACode := .seq (.seq (.ops o3_53) (.block 2 (.clear [2, 4, 5, 6, 7, 8, 9, 10, 12, 16, 17, 18, 19, 21, 22, 23, 24, 25, 26, 27, 28, 29, 30, 31, 32, 33, 34, 35, 36, 37, 38, 39, 40, 41, 42, 43, 44, 45, 46, 47, 48, 49, 50, 51, 52, 53, 54, 55, 56, 57, 58, 59, 60, 61, 62, 63, 64, 65, 66, 67, 68, 69, 70, 71, 72, 73, 74, 75, 76, 77, 78, 79, 80, 81, 82, 83, 84, 85, 86, 87, 88, 89, 90, 91, 92, 93, 94, 95, 96, 97, 98, 99, 100, 101, 102, 103, 104, 105, 106, 107, 108, 109, 110, 111, 112, 113, 114, 115, 116, 117, 118, 119, 120, 121, 122, 123, 124, 125, 126, 127, 128, 129, 130, 131, 132, 133, 134, 135, 136, 137, 138, 139, 140, 141, 142, 143, 144, 145, 146, 147, 148, 149, 150, 151, 152, 153, 154, 155, 156, 157, 158, 159, 160, 161, 162, 163, 164, 165, 166, 167, 168, 169, 170, 171, 172, 173, 174, 175, 176, 177, 178, 179, 180, 181, 182, 183, 184, 185, 186, 187, 188, 189, 190, 191, 192, 193, 194, 195, 196, 197, 198, 199, 200, 201, 202, 203, 204, 205, 206, 207, 208, 209, 210, 211, 212, 213, 214, 215, 216, 217, 218, 219, 220, 221, 222, 223, 224, 225, 226, 227, 228, 229, 230, 231, 232, 233, 234, 235, 236, 237, 238, 239, 240, 241, 242, 243, 244, 245, 246, 247, 248, 249, 250, 251, 252] (.loop b3_55)))) (.clear [2, 3, 4, 5, 6, 7, 8, 9, 10, 12, 14, 15, 16, 17, 18, 19, 20, 21, 22, 23, 24, 25, 26, 27, 28, 29, 30, 31, 32, 33, 34, 35, 36, 37, 38, 39, 40, 41, 42, 43, 44, 45, 46, 47, 48, 49, 50, 51, 52, 53, 54, 55, 56, 57, 58, 59, 60, 61, 62, 63, 64, 65, 66, 67, 68, 69, 70, 71, 72, 73, 74, 75, 76, 77, 78, 79, 80, 81, 82, 83, 84, 85, 86, 87, 88, 89, 90, 91, 92, 93, 94, 95, 96, 97, 98, 99, 100, 101, 102, 103, 104, 105, 106, 107, 108, 109, 110, 111, 112, 113, 114, 115, 116, 117, 118, 119, 120, 121, 122, 123, 124, 125, 126, 127, 128, 129, 130, 131, 132, 133, 134, 135, 136, 137, 138, 139, 140, 141, 142, 143, 144, 145, 146, 147, 148, 149, 150, 151, 152, 153, 154, 155, 156, 157, 158, 159, 160, 161, 162, 163, 164, 165, 166, 167, 168, 169, 170, 171, 172, 173, 174, 175, 176, 177, 178, 179, 180, 181, 182, 183, 184, 185, 186, 187, 188, 189, 190, 191, 192, 193, 194, 195, 196, 197, 198, 199, 200, 201, 202, 203, 204, 205, 206, 207, 208, 209, 210, 211, 212, 213, 214, 215, 216, 217, 218, 219, 220, 221, 222, 223, 224, 225, 226, 227, 228, 229, 230, 231, 232, 233, 234, 235, 236, 237, 238, 239, 240, 241, 242, 243, 244, 245, 246, 247, 248, 249, 250, 251, 252] c3_84)
def c3_0 : ACode := .seq (.ops o3_1) (.seq (.seq (.ops o3_4) (.cond (.tmp 37) (.seq (.ops o3_7) (.ret)) (.skip))) (.seq (.ops o3_11) (.seq (.ops o3_13) (.seq (.ops o3_15) (.seq (.ops o3_17) (.seq (.ops o3_19) (.seq (.ops o3_21) (.seq (.seq (.ops o3_24) (.block 0 (.clear [4, 5, 6, 7, 8, 9, 10, 12, 17, 18, 19, 20, 21, 22, 23, 24, 25, 26, 27, 28, 29, 30, 31, 32, 33, 34, 35, 36, 37, 38, 39, 40, 41, 42, 43, 44, 45, 46, 47, 48, 49, 50, 51, 52, 53, 54, 55, 56, 57, 58, 59, 60, 61, 62, 63, 64, 65, 66, 67, 68, 69, 70, 71, 72, 73, 74, 75, 76, 77, 78, 79, 80, 81, 82, 83, 84, 85, 86, 87, 88, 89, 90, 91, 92, 93, 94, 95, 96, 97, 98, 99, 100, 101, 102, 103, 104, 105, 106, 107, 108, 109, 110, 111, 112, 113, 114, 115, 116, 117, 118, 119, 120, 121, 122, 123, 124, 125, 126, 127, 128, 129, 130, 131, 132, 133, 134, 135, 136, 137, 138, 139, 140, 141, 142, 143, 144, 145, 146, 147, 148, 149, 150, 151, 152, 153, 154, 155, 156, 157, 158, 159, 160, 161, 162, 163, 164, 165, 166, 167, 168, 169, 170, 171, 172, 173, 174, 175, 176, 177, 178, 179, 180, 181, 182, 183, 184, 185, 186, 187, 188, 189, 190, 191, 192, 193, 194, 195, 196, 197, 198, 199, 200, 201, 202, 203, 204, 205, 206, 207, 208, 209, 210, 211, 212, 213, 214, 215, 216, 217, 218, 219, 220, 221, 222, 223, 224, 225, 226, 227, 228, 229, 230, 231, 232, 233, 234, 235, 236, 237, 238, 239, 240, 241, 242, 243, 244, 245, 246, 247, 248, 249, 250, 251, 252] (.loop b3_26)))) (.clear [2, 4, 5, 6, 7, 8, 9, 10, 12, 16, 17, 18, 19, 20, 21, 22, 23, 24, 25, 26, 27, 28, 29, 30, 31, 32, 33, 34, 35, 36, 37, 38, 39, 40, 41, 42, 43, 44, 45, 46, 47, 48, 49, 50, 51, 52, 53, 54, 55, 56, 57, 58, 59, 60, 61, 62, 63, 64, 65, 66, 67, 68, 69, 70, 71, 72, 73, 74, 75, 76, 77, 78, 79, 80, 81, 82, 83, 84, 85, 86, 87, 88, 89, 90, 91, 92, 93, 94, 95, 96, 97, 98, 99, 100, 101, 102, 103, 104, 105, 106, 107, 108, 109, 110, 111, 112, 113, 114, 115, 116, 117, 118, 119, 120, 121, 122, 123, 124, 125, 126, 127, 128, 129, 130, 131, 132, 133, 134, 135, 136, 137, 138, 139, 140, 141, 142, 143, 144, 145, 146, 147, 148, 149, 150, 151, 152, 153, 154, 155, 156, 157, 158, 159, 160, 161, 162, 163, 164, 165, 166, 167, 168, 169, 170, 171, 172, 173, 174, 175, 176, 177, 178, 179, 180, 181, 182, 183, 184, 185, 186, 187, 188, 189, 190, 191, 192, 193, 194, 195, 196, 197, 198, 199, 200, 201, 202, 203, 204, 205, 206, 207, 208, 209, 210, 211, 212, 213, 214, 215, 216, 217, 218, 219, 220, 221, 222, 223, 224, 225, 226, 227, 228, 229, 230, 231, 232, 233, 234, 235, 236, 237, 238, 239, 240, 241, 242, 243, 244, 245, 246, 247, 248, 249, 250, 251, 252] c3_51)))))))))
def a3 : AFun := ⟨253, [.tmp 10], c3_0⟩
theorem ok3 : OkFun Try.prog 3 a3 := ⟨Try.f3, Try.f3.body.getD .skip, Try.func3, by kernel_rfl, by kernel_rfl, by kernel_rfl, by kernel_rfl, by kernel_rfl⟩
/-! #### skylightlaw35.BatchOnce -/
def o4_1 : List AOper := [⟨some 8, .mv (.const (.bool false)), none⟩]
def o4_4 : List AOper := [⟨some 27, .mv (.tmp 3), none⟩,
  ⟨some 28, .len (.tmp 27), none⟩,
  ⟨some 29, .bin .gtr (.tmp 28) (.const (.int .i64 150)), none⟩]
def o4_7 : List AOper := [⟨some 30, .call true (.func 10) [] [(false, [.bool])] true, none⟩,
  ⟨some 8, .mv (.tmp 30), none⟩]
def o4_11 : List AOper := [⟨some 31, .mv (.tmp 0), none⟩,
  ⟨some 32, .conv .i64 (.tmp 31), none⟩,
  ⟨some 33, .bin .rem (.tmp 32) (.const (.int .i64 61)), none⟩,
  ⟨some 34, .mv (.tmp 1), none⟩,
  ⟨some 35, .conv .i64 (.tmp 34), none⟩,
  ⟨some 36, .bin .rem (.tmp 35) (.const (.int .i64 20)), none⟩,
  ⟨some 37, .bin .add (.const (.int .i64 1)) (.tmp 36), none⟩,
  ⟨some 38, .mv (.tmp 2), none⟩,
  ⟨some 39, .conv .i64 (.tmp 38), none⟩,
  ⟨some 40, .bin .rem (.tmp 39) (.const (.int .i64 8)), none⟩,
  ⟨some 41, .bin .add (.const (.int .i64 1)) (.tmp 40), none⟩,
  ⟨some 9, .mv (.tmp 33), none⟩,
  ⟨some 10, .mv (.tmp 37), none⟩,
  ⟨some 11, .mv (.tmp 41), none⟩]
def o4_13 : List AOper := [⟨some 42, .call false (.func 12) [.const (.int .i64 1)] [(false, [.ptr])] true, none⟩,
  ⟨some 12, .mv (.tmp 42), none⟩]
def o4_15 : List AOper := [⟨some 13, .alloc [.int .i64 0, .int .i64 0, .int .i64 0, .int .i64 0, .int .i64 0, .int .i64 0, .int .i64 0, .int .i64 0, .int .i64 0, .int .i64 0, .int .i64 0, .int .i64 0, .int .i64 0, .int .i64 0, .int .i64 0, .int .i64 0, .int .i64 0, .int .i64 0, .int .i64 0, .int .i64 0, .int .i64 0, .int .i64 0, .int .i64 0, .int .i64 0, .int .i64 0, .int .i64 0, .int .i64 0, .int .i64 0, .int .i64 0, .int .i64 0, .int .i64 0, .int .i64 0, .int .i64 0, .int .i64 0, .int .i64 0, .int .i64 0, .int .i64 0, .int .i64 0, .int .i64 0, .int .i64 0, .int .i64 0, .int .i64 0, .int .i64 0, .int .i64 0, .int .i64 0, .int .i64 0, .int .i64 0, .int .i64 0, .int .i64 0, .int .i64 0, .int .i64 0, .int .i64 0, .int .i64 0, .int .i64 0, .int .i64 0, .int .i64 0, .int .i64 0, .int .i64 0, .int .i64 0, .int .i64 0, .int .i64 0], none⟩]
def o4_17 : List AOper := [⟨some 14, .mv (.const (.int .i64 0)), none⟩]
def o4_19 : List AOper := [⟨some 15, .mv (.const (.slice none 0 0)), none⟩]
def o4_22 : List AOper := [⟨some 16, .mv (.const (.int .i64 0)), none⟩]
def o4_27 : List AOper := [⟨some 43, .mv (.tmp 16), none⟩,
  ⟨some 44, .mv (.tmp 11), none⟩,
  ⟨some 45, .bin .lss (.tmp 43) (.tmp 44), none⟩]
def o4_33 : List AOper := [⟨some 48, .mv (.tmp 15), none⟩,
  ⟨some 49, .mv (.tmp 9), none⟩,
  ⟨some 50, .mv (.tmp 10), none⟩,
  ⟨some 51, .call false (.func 16) [.tmp 49, .tmp 50] [(false, [.ptr])] true, none⟩,
  ⟨some 52, .buildSlice 1 1 [.pointer none] [(0, 1, .tmp 51)], none⟩,
  ⟨some 53, .append 1 8 (.tmp 48) (.tmp 52), none⟩,
  ⟨some 15, .mv (.tmp 53), none⟩]
def o4_34 : List AOper := [⟨some 46, .mv (.tmp 16), none⟩,
  ⟨some 47, .bin .add (.tmp 46) (.const (.int .i64 1)), none⟩,
  ⟨some 16, .mv (.tmp 47), none⟩]
def c4_34 : ACode := .ops o4_34
def b4_24 : ACode := .post (.seq (.seq (.ops o4_27) (.cond (.tmp 45) (.skip) (.exit 0))) (.seq (.block 1 (.ops o4_33)) (.clear [0, 1, 2, 4, 5, 6, 7, 8, 17, 18, 19, 20, 21, 22, 23, 24, 25, 26, 27, 28, 29, 30, 31, 32, 33, 34, 35, 36, 37, 38, 39, 40, 41, 42, 43, 44, 45, 46, 47, 48, 49, 50, 51, 52, 53, 54, 55, 56, 57, 58, 59, 60, 61, 62, 63, 64, 65, 66, 67, 68, 69, 70, 71, 72, 73, 74, 75, 76, 77, 78, 79, 80, 81, 82, 83, 84, 85, 86, 87, 88, 89, 90, 91, 92, 93, 94, 95, 96, 97, 98, 99, 100, 101, 102, 103, 104, 105, 106, 107, 108, 109, 110, 111, 112, 113, 114, 115, 116, 117, 118, 119, 120, 121, 122, 123, 124, 125, 126, 127, 128, 129, 130, 131, 132, 133, 134, 135, 136, 137, 138, 139, 140, 141, 142, 143, 144, 145, 146, 147, 148, 149, 150, 151, 152, 153, 154, 155, 156, 157, 158, 159, 160, 161, 162, 163, 164, 165, 166, 167, 168, 169, 170, 171, 172, 173, 174, 175, 176, 177, 178, 179, 180, 181, 182, 183, 184, 185, 186, 187, 188, 189] c4_34))) [0, 1, 2, 4, 5, 6, 7, 8, 17, 18, 19, 20, 21, 22, 23, 24, 25, 26, 27, 28, 29, 30, 31, 32, 33, 34, 35, 36, 37, 38, 39, 40, 41, 42, 43, 44, 45, 46, 47, 48, 49, 50, 51, 52, 53, 54, 55, 56, 57, 58, 59, 60, 61, 62, 63, 64, 65, 66, 67, 68, 69, 70, 71, 72, 73, 74, 75, 76, 77, 78, 79, 80, 81, 82, 83, 84, 85, 86, 87, 88, 89, 90, 91, 92, 93, 94, 95, 96, 97, 98, 99, 100, 101, 102, 103, 104, 105, 106, 107, 108, 109, 110, 111, 112, 113, 114, 115, 116, 117, 118, 119, 120, 121, 122, 123, 124, 125, 126, 127, 128, 129, 130, 131, 132, 133, 134, 135, 136, 137, 138, 139, 140, 141, 142, 143, 144, 145, 146, 147, 148, 149, 150, 151, 152, 153, 154, 155, 156, 157, 158, 159, 160, 161, 162, 163, 164, 165, 166, 167, 168, 169, 170, 171, 172, 173, 174, 175, 176, 177, 178, 179, 180, 181, 182, 183, 184, 185, 186, 187, 188, 189]
def o4_37 : List AOper := [⟨some 17, .mv (.const (.int .i64 0)), none⟩]
def o4_42 : List AOper := [⟨some 54, .mv (.tmp 17), none⟩,
  ⟨some 55, .mv (.tmp 3), none⟩,
  ⟨some 56, .len (.tmp 55), none⟩,
  ⟨some 57, .mv (.tmp 11), none⟩,
  ⟨some 58, .bin .mul (.tmp 57) (.const (.int .i64 200)), none⟩,
  ⟨some 59, .bin .add (.tmp 56) (.tmp 58), none⟩,
  ⟨some 60, .bin .lss (.tmp 54) (.tmp 59), none⟩]
def o4_49 : List AOper := [⟨some 63, .mv (.tmp 17), none⟩,
  ⟨some 64, .mv (.tmp 3), none⟩,
  ⟨some 65, .len (.tmp 64), none⟩,
  ⟨some 66, .bin .sub (.tmp 63) (.tmp 65), none⟩,
  ⟨some 67, .minmax true [.const (.int .i64 0), .tmp 66], none⟩,
  ⟨some 68, .bin .quo (.tmp 67) (.const (.int .i64 200)), none⟩,
  ⟨some 18, .mv (.tmp 68), none⟩]
def o4_52 : List AOper := [⟨some 69, .mv (.tmp 17), none⟩,
  ⟨some 70, .mv (.tmp 3), none⟩,
  ⟨some 71, .len (.tmp 70), none⟩,
  ⟨some 72, .bin .lss (.tmp 69) (.tmp 71), none⟩]
def o4_54 : List AOper := [⟨some 73, .mv (.tmp 3), none⟩,
  ⟨some 74, .mv (.tmp 17), none⟩,
  ⟨some 75, .indexAddr 1 (.tmp 73) (.tmp 74), none⟩,
  ⟨some 76, .load false [.int .u8] (.tmp 75), none⟩,
  ⟨some 77, .conv .i64 (.tmp 76), none⟩,
  ⟨some 78, .mv (.tmp 11), none⟩,
  ⟨some 79, .bin .rem (.tmp 77) (.tmp 78), none⟩,
  ⟨some 18, .mv (.tmp 79), none⟩]
def o4_58 : List AOper := [⟨some 80, .mv (.tmp 15), none⟩,
  ⟨some 81, .mv (.tmp 18), none⟩,
  ⟨some 82, .indexAddr 1 (.tmp 80) (.tmp 81), none⟩,
  ⟨some 83, .load false [.ptr] (.tmp 82), none⟩,
  ⟨some 84, .call false (.func 19) [.tmp 83] [(false, [.bool])] true, none⟩]
def o4_64 : List AOper := [⟨some 85, .mv (.tmp 15), none⟩,
  ⟨some 86, .mv (.tmp 18), none⟩,
  ⟨some 87, .indexAddr 1 (.tmp 85) (.tmp 86), none⟩,
  ⟨some 88, .load false [.ptr] (.tmp 87), none⟩,
  ⟨some 89, .mv (.tmp 12), none⟩,
  ⟨some 90, .call false (.func 17) [.tmp 88, .tmp 89] [(false, [.bool])] true, none⟩,
  ⟨some 91, .un .not (.tmp 90), none⟩]
def o4_67 : List AOper := [⟨some 8, .mv (.const (.bool false)), none⟩]
def o4_71 : List AOper := [⟨some 93, .mv (.tmp 15), none⟩,
  ⟨some 94, .mv (.tmp 18), none⟩,
  ⟨some 95, .indexAddr 1 (.tmp 93) (.tmp 94), none⟩,
  ⟨some 96, .load false [.ptr] (.tmp 95), none⟩,
  ⟨some 97, .call false (.func 21) [.tmp 96] [(false, [.int .i64]), (false, [.int .i64]), (false, [.bool])] false, none⟩,
  ⟨some 92, .mv (.tmp 97), none⟩,
  ⟨some 98, .extract (.tmp 92) 0, none⟩,
  ⟨some 99, .extract (.tmp 92) 1, none⟩,
  ⟨some 100, .extract (.tmp 92) 2, none⟩,
  ⟨some 19, .mv (.tmp 98), none⟩,
  ⟨some 20, .mv (.tmp 99), none⟩,
  ⟨some 21, .mv (.tmp 100), none⟩]
def o4_74 : List AOper := [⟨some 101, .mv (.tmp 21), none⟩,
  ⟨some 102, .un .not (.tmp 101), none⟩]
def o4_79 : List AOper := [⟨some 103, .mv (.tmp 14), none⟩,
  ⟨some 104, .bin .add (.tmp 103) (.const (.int .i64 1)), none⟩,
  ⟨some 14, .mv (.tmp 104), none⟩]
def o4_82 : List AOper := [⟨some 105, .mv (.tmp 19), none⟩,
  ⟨some 106, .bin .lss (.tmp 105) (.const (.int .i64 0)), none⟩,
  ⟨some 107, .mv (.tmp 106), none⟩,
  ⟨some 108, .mv (.tmp 20), some (107, false)⟩,
  ⟨some 109, .mv (.tmp 9), some (107, false)⟩,
  ⟨some 110, .bin .gtr (.tmp 108) (.tmp 109), some (107, false)⟩,
  ⟨some 111, .pick (.tmp 107) (.const (.bool true)) (.tmp 110), none⟩,
  ⟨some 112, .mv (.tmp 111), none⟩,
  ⟨some 113, .mv (.tmp 20), some (112, false)⟩,
  ⟨some 114, .mv (.tmp 19), some (112, false)⟩,
  ⟨some 115, .bin .sub (.tmp 113) (.tmp 114), some (112, false)⟩,
  ⟨some 116, .mv (.tmp 10), some (112, false)⟩,
  ⟨some 117, .bin .gtr (.tmp 115) (.tmp 116), some (112, false)⟩,
  ⟨some 118, .pick (.tmp 112) (.const (.bool true)) (.tmp 117), none⟩]
def o4_85 : List AOper := [⟨some 8, .mv (.const (.bool false)), none⟩]
def c4_83 : ACode := .cond (.tmp 118) (.seq (.ops o4_85) (.ret)) (.skip)
def o4_90 : List AOper := [⟨some 119, .mv (.tmp 19), none⟩,
  ⟨some 22, .mv (.tmp 119), none⟩]
def o4_95 : List AOper := [⟨some 120, .mv (.tmp 22), none⟩,
  ⟨some 121, .mv (.tmp 20), none⟩,
  ⟨some 122, .bin .lss (.tmp 120) (.tmp 121), none⟩]
def o4_101 : List AOper := [⟨some 125, .mv (.tmp 22), none⟩,
  ⟨some 126, .indexArr 61 1 (.tmp 13) (.tmp 125), none⟩,
  ⟨some 127, .load false [.int .i64] (.tmp 126), none⟩,
  ⟨some 128, .bin .add (.tmp 127) (.const (.int .i64 1)), none⟩,
  ⟨some 129, .indexArr 61 1 (.tmp 13) (.tmp 125), none⟩,
  ⟨none, .store 1 (.tmp 129) (.tmp 128), none⟩]
def o4_102 : List AOper := [⟨some 123, .mv (.tmp 22), none⟩,
  ⟨some 124, .bin .add (.tmp 123) (.const (.int .i64 1)), none⟩,
  ⟨some 22, .mv (.tmp 124), none⟩]
def c4_102 : ACode := .ops o4_102
def b4_92 : ACode := .post (.seq (.seq (.ops o4_95) (.cond (.tmp 122) (.skip) (.exit 4))) (.seq (.block 5 (.ops o4_101)) (.clear [0, 1, 2, 4, 5, 6, 7, 8, 16, 19, 21, 23, 24, 25, 26, 27, 28, 29, 30, 31, 32, 33, 34, 35, 36, 37, 38, 39, 40, 41, 42, 43, 44, 45, 46, 47, 48, 49, 50, 51, 52, 53, 54, 55, 56, 57, 58, 59, 60, 61, 62, 63, 64, 65, 66, 67, 68, 69, 70, 71, 72, 73, 74, 75, 76, 77, 78, 79, 80, 81, 82, 83, 84, 85, 86, 87, 88, 89, 90, 91, 92, 93, 94, 95, 96, 97, 98, 99, 100, 101, 102, 103, 104, 105, 106, 107, 108, 109, 110, 111, 112, 113, 114, 115, 116, 117, 118, 119, 120, 121, 122, 123, 124, 125, 126, 127, 128, 129, 130, 131, 132, 133, 134, 135, 136, 137, 138, 139, 140, 141, 142, 143, 144, 145, 146, 147, 148, 149, 150, 151, 152, 153, 154, 155, 156, 157, 158, 159, 160, 161, 162, 163, 164, 165, 166, 167, 168, 169, 170, 171, 172, 173, 174, 175, 176, 177, 178, 179, 180, 181, 182, 183, 184, 185, 186, 187, 188, 189] c4_102))) [0, 1, 2, 4, 5, 6, 7, 8, 16, 19, 21, 23, 24, 25, 26, 27, 28, 29, 30, 31, 32, 33, 34, 35, 36, 37, 38, 39, 40, 41, 42, 43, 44, 45, 46, 47, 48, 49, 50, 51, 52, 53, 54, 55, 56, 57, 58, 59, 60, 61, 62, 63, 64, 65, 66, 67, 68, 69, 70, 71, 72, 73, 74, 75, 76, 77, 78, 79, 80, 81, 82, 83, 84, 85, 86, 87, 88, 89, 90, 91, 92, 93, 94, 95, 96, 97, 98, 99, 100, 101, 102, 103, 104, 105, 106, 107, 108, 109, 110, 111, 112, 113, 114, 115, 116, 117, 118, 119, 120, 121, 122, 123, 124, 125, 126, 127, 128, 129, 130, 131, 132, 133, 134, 135, 136, 137, 138, 139, 140, 141, 142, 143, 144, 145, 146, 147, 148, 149, 150, 151, 152, 153, 154, 155, 156, 157, 158, 159, 160, 161, 162, 163, 164, 165, 166, 167, 168, 169, 170, 171, 172, 173, 174, 175, 176, 177, 178, 179, 180, 181, 182, 183, 184, 185, 186, 187, 188, 189]
def o4_103 : List AOper := [⟨some 130, .mv (.tmp 15), none⟩,
  ⟨some 131, .mv (.tmp 18), none⟩,
  ⟨some 132, .mv (.tmp 9), none⟩,
  ⟨some 133, .mv (.tmp 10), none⟩,
  ⟨some 134, .call false (.func 16) [.tmp 132, .tmp 133] [(false, [.ptr])] true, none⟩,
  ⟨some 135, .indexAddr 1 (.tmp 130) (.tmp 131), none⟩,
  ⟨none, .store 1 (.tmp 135) (.tmp 134), none⟩]
def c4_103 : ACode := .ops o4_103
def c4_56 : ACode := .seq (.seq (.ops o4_58) (.cond (.tmp 84) (.exit 3) (.skip))) (.seq (.seq (.ops o4_64) (.cond (.tmp 91) (.seq (.ops o4_67) (.ret)) (.skip))) (.seq (.ops o4_71) (.seq (.seq (.ops o4_74) (.cond (.tmp 102) (.exit 3) (.skip))) (.seq (.ops o4_79) (.seq (.seq (.ops o4_82) (.clear [0, 1, 2, 4, 5, 6, 7, 8, 16, 21, 22, 23, 24, 25, 26, 27, 28, 29, 30, 31, 32, 33, 34, 35, 36, 37, 38, 39, 40, 41, 42, 43, 44, 45, 46, 47, 48, 49, 50, 51, 52, 53, 54, 55, 56, 57, 58, 59, 60, 61, 62, 63, 64, 65, 66, 67, 68, 69, 70, 71, 72, 73, 74, 75, 76, 77, 78, 79, 80, 81, 82, 83, 84, 85, 86, 87, 88, 89, 90, 91, 92, 93, 94, 95, 96, 97, 98, 99, 100, 101, 102, 103, 104, 105, 106, 107, 108, 109, 110, 111, 112, 113, 114, 115, 116, 117, 119, 120, 121, 122, 123, 124, 125, 126, 127, 128, 129, 130, 131, 132, 133, 134, 135, 136, 137, 138, 139, 140, 141, 142, 143, 144, 145, 146, 147, 148, 149, 150, 151, 152, 153, 154, 155, 156, 157, 158, 159, 160, 161, 162, 163, 164, 165, 166, 167, 168, 169, 170, 171, 172, 173, 174, 175, 176, 177, 178, 179, 180, 181, 182, 183, 184, 185, 186, 187, 188, 189] c4_83)) (.seq (.seq (.ops o4_90) (.block 4 (.clear [0, 1, 2, 4, 5, 6, 7, 8, 16, 19, 21, 23, 24, 25, 26, 27, 28, 29, 30, 31, 32, 33, 34, 35, 36, 37, 38, 39, 40, 41, 42, 43, 44, 45, 46, 47, 48, 49, 50, 51, 52, 53, 54, 55, 56, 57, 58, 59, 60, 61, 62, 63, 64, 65, 66, 67, 68, 69, 70, 71, 72, 73, 74, 75, 76, 77, 78, 79, 80, 81, 82, 83, 84, 85, 86, 87, 88, 89, 90, 91, 92, 93, 94, 95, 96, 97, 98, 99, 100, 101, 102, 103, 104, 105, 106, 107, 108, 109, 110, 111, 112, 113, 114, 115, 116, 117, 118, 119, 120, 121, 122, 123, 124, 125, 126, 127, 128, 129, 130, 131, 132, 133, 134, 135, 136, 137, 138, 139, 140, 141, 142, 143, 144, 145, 146, 147, 148, 149, 150, 151, 152, 153, 154, 155, 156, 157, 158, 159, 160, 161, 162, 163, 164, 165, 166, 167, 168, 169, 170, 171, 172, 173, 174, 175, 176, 177, 178, 179, 180, 181, 182, 183, 184, 185, 186, 187, 188, 189] (.loop b4_92)))) (.clear [0, 1, 2, 4, 5, 6, 7, 8, 16, 19, 20, 21, 22, 23, 24, 25, 26, 27, 28, 29, 30, 31, 32, 33, 34, 35, 36, 37, 38, 39, 40, 41, 42, 43, 44, 45, 46, 47, 48, 49, 50, 51, 52, 53, 54, 55, 56, 57, 58, 59, 60, 61, 62, 63, 64, 65, 66, 67, 68, 69, 70, 71, 72, 73, 74, 75, 76, 77, 78, 79, 80, 81, 82, 83, 84, 85, 86, 87, 88, 89, 90, 91, 92, 93, 94, 95, 96, 97, 98, 99, 100, 101, 102, 103, 104, 105, 106, 107, 108, 109, 110, 111, 112, 113, 114, 115, 116, 117, 118, 119, 120, 121, 122, 123, 124, 125, 126, 127, 128, 129, 130, 131, 132, 133, 134, 135, 136, 137, 138, 139, 140, 141, 142, 143, 144, 145, 146, 147, 148, 149, 150, 151, 152, 153, 154, 155, 156, 157, 158, 159, 160, 161, 162, 163, 164, 165, 166, 167, 168, 169, 170, 171, 172, 173, 174, 175, 176, 177, 178, 179, 180, 181, 182, 183, 184, 185, 186, 187, 188, 189] c4_103)))))))
def o4_104 : List AOper := [⟨some 61, .mv (.tmp 17), none⟩,
  ⟨some 62, .bin .add (.tmp 61) (.const (.int .i64 1)), none⟩,
  ⟨some 17, .mv (.tmp 62), none⟩]
def c4_104 : ACode := .ops o4_104
def b4_39 : ACode := .post (.seq (.seq (.ops o4_42) (.cond (.tmp 60) (.skip) (.exit 2))) (.seq (.block 3 (.seq (.ops o4_49) (.seq (.seq (.ops o4_52) (.cond (.tmp 72) (.ops o4_54) (.skip))) (.clear [0, 1, 2, 4, 5, 6, 7, 8, 16, 19, 20, 21, 22, 23, 24, 25, 26, 27, 28, 29, 30, 31, 32, 33, 34, 35, 36, 37, 38, 39, 40, 41, 42, 43, 44, 45, 46, 47, 48, 49, 50, 51, 52, 53, 54, 55, 56, 57, 58, 59, 60, 61, 62, 63, 64, 65, 66, 67, 68, 69, 70, 71, 72, 73, 74, 75, 76, 77, 78, 79, 80, 81, 82, 83, 84, 85, 86, 87, 88, 89, 90, 91, 92, 93, 94, 95, 96, 97, 98, 99, 100, 101, 102, 103, 104, 105, 106, 107, 108, 109, 110, 111, 112, 113, 114, 115, 116, 117, 118, 119, 120, 121, 122, 123, 124, 125, 126, 127, 128, 129, 130, 131, 132, 133, 134, 135, 136, 137, 138, 139, 140, 141, 142, 143, 144, 145, 146, 147, 148, 149, 150, 151, 152, 153, 154, 155, 156, 157, 158, 159, 160, 161, 162, 163, 164, 165, 166, 167, 168, 169, 170, 171, 172, 173, 174, 175, 176, 177, 178, 179, 180, 181, 182, 183, 184, 185, 186, 187, 188, 189] c4_56)))) (.clear [0, 1, 2, 4, 5, 6, 7, 8, 16, 18, 19, 20, 21, 22, 23, 24, 25, 26, 27, 28, 29, 30, 31, 32, 33, 34, 35, 36, 37, 38, 39, 40, 41, 42, 43, 44, 45, 46, 47, 48, 49, 50, 51, 52, 53, 54, 55, 56, 57, 58, 59, 60, 61, 62, 63, 64, 65, 66, 67, 68, 69, 70, 71, 72, 73, 74, 75, 76, 77, 78, 79, 80, 81, 82, 83, 84, 85, 86, 87, 88, 89, 90, 91, 92, 93, 94, 95, 96, 97, 98, 99, 100, 101, 102, 103, 104, 105, 106, 107, 108, 109, 110, 111, 112, 113, 114, 115, 116, 117, 118, 119, 120, 121, 122, 123, 124, 125, 126, 127, 128, 129, 130, 131, 132, 133, 134, 135, 136, 137, 138, 139, 140, 141, 142, 143, 144, 145, 146, 147, 148, 149, 150, 151, 152, 153, 154, 155, 156, 157, 158, 159, 160, 161, 162, 163, 164, 165, 166, 167, 168, 169, 170, 171, 172, 173, 174, 175, 176, 177, 178, 179, 180, 181, 182, 183, 184, 185, 186, 187, 188, 189] c4_104))) [0, 1, 2, 4, 5, 6, 7, 8, 16, 18, 19, 20, 21, 22, 23, 24, 25, 26, 27, 28, 29, 30, 31, 32, 33, 34, 35, 36, 37, 38, 39, 40, 41, 42, 43, 44, 45, 46, 47, 48, 49, 50, 51, 52, 53, 54, 55, 56, 57, 58, 59, 60, 61, 62, 63, 64, 65, 66, 67, 68, 69, 70, 71, 72, 73, 74, 75, 76, 77, 78, 79, 80, 81, 82, 83, 84, 85, 86, 87, 88, 89, 90, 91, 92, 93, 94, 95, 96, 97, 98, 99, 100, 101, 102, 103, 104, 105, 106, 107, 108, 109, 110, 111, 112, 113, 114, 115, 116, 117, 118, 119, 120, 121, 122, 123, 124, 125, 126, 127, 128, 129, 130, 131, 132, 133, 134, 135, 136, 137, 138, 139, 140, 141, 142, 143, 144, 145, 146, 147, 148, 149, 150, 151, 152, 153, 154, 155, 156, 157, 158, 159, 160, 161, 162, 163, 164, 165, 166, 167, 168, 169, 170, 171, 172, 173, 174, 175, 176, 177, 178, 179, 180, 181, 182, 183, 184, 185, 186, 187, 188, 189]
def o4_107 : List AOper := [⟨some 23, .mv (.const (.int .i64 0)), none⟩]
def o4_112 : List AOper := [⟨some 136, .mv (.tmp 23), none⟩,
  ⟨some 137, .bin .lss (.tmp 136) (.const (.int .i64 61)), none⟩]
def o4_119 : List AOper := [⟨some 140, .mv (.tmp 23), none⟩,
  ⟨some 141, .mv (.tmp 9), none⟩,
  ⟨some 142, .bin .lss (.tmp 140) (.tmp 141), none⟩,
  ⟨some 143, .mv (.tmp 142), none⟩,
  ⟨some 144, .mv (.tmp 23), some (143, true)⟩,
  ⟨some 145, .indexArr 61 1 (.tmp 13) (.tmp 144), some (143, true)⟩,
  ⟨some 146, .load false [.int .i64] (.tmp 145), some (143, true)⟩,
  ⟨some 147, .bin .neq (.tmp 146) (.const (.int .i64 1)), some (143, true)⟩,
  ⟨some 148, .pick (.tmp 143) (.tmp 147) (.const (.bool false)), none⟩,
  ⟨some 149, .mv (.tmp 148), none⟩,
  ⟨some 150, .mv (.tmp 23), some (149, false)⟩,
  ⟨some 151, .mv (.tmp 9), some (149, false)⟩,
  ⟨some 152, .bin .geq (.tmp 150) (.tmp 151), some (149, false)⟩,
  ⟨some 153, .mv (.tmp 152), some (149, false)⟩,
  ⟨some 154, .mv (.tmp 23), some (153, true)⟩,
  ⟨some 155, .indexArr 61 1 (.tmp 13) (.tmp 154), some (153, true)⟩,
  ⟨some 156, .load false [.int .i64] (.tmp 155), some (153, true)⟩,
  ⟨some 157, .bin .neq (.tmp 156) (.const (.int .i64 0)), some (153, true)⟩,
  ⟨some 158, .pick (.tmp 153) (.tmp 157) (.const (.bool false)), some (149, false)⟩,
  ⟨some 159, .pick (.tmp 149) (.const (.bool true)) (.tmp 158), none⟩]
def o4_122 : List AOper := [⟨some 8, .mv (.const (.bool false)), none⟩]
def o4_125 : List AOper := [⟨some 138, .mv (.tmp 23), none⟩,
  ⟨some 139, .bin .add (.tmp 138) (.const (.int .i64 1)), none⟩,
  ⟨some 23, .mv (.tmp 139), none⟩]
def c4_125 : ACode := .ops o4_125
def b4_109 : ACode := .post (.seq (.seq (.ops o4_112) (.cond (.tmp 137) (.skip) (.exit 6))) (.seq (.block 7 (.seq (.ops o4_119) (.cond (.tmp 159) (.seq (.ops o4_122) (.ret)) (.skip)))) (.clear [0, 1, 2, 3, 4, 5, 6, 7, 8, 16, 17, 18, 19, 20, 21, 22, 24, 25, 26, 27, 28, 29, 30, 31, 32, 33, 34, 35, 36, 37, 38, 39, 40, 41, 42, 43, 44, 45, 46, 47, 48, 49, 50, 51, 52, 53, 54, 55, 56, 57, 58, 59, 60, 61, 62, 63, 64, 65, 66, 67, 68, 69, 70, 71, 72, 73, 74, 75, 76, 77, 78, 79, 80, 81, 82, 83, 84, 85, 86, 87, 88, 89, 90, 91, 92, 93, 94, 95, 96, 97, 98, 99, 100, 101, 102, 103, 104, 105, 106, 107, 108, 109, 110, 111, 112, 113, 114, 115, 116, 117, 118, 119, 120, 121, 122, 123, 124, 125, 126, 127, 128, 129, 130, 131, 132, 133, 134, 135, 136, 137, 138, 139, 140, 141, 142, 143, 144, 145, 146, 147, 148, 149, 150, 151, 152, 153, 154, 155, 156, 157, 158, 159, 160, 161, 162, 163, 164, 165, 166, 167, 168, 169, 170, 171, 172, 173, 174, 175, 176, 177, 178, 179, 180, 181, 182, 183, 184, 185, 186, 187, 188, 189] c4_125))) [0, 1, 2, 3, 4, 5, 6, 7, 8, 16, 17, 18, 19, 20, 21, 22, 24, 25, 26, 27, 28, 29, 30, 31, 32, 33, 34, 35, 36, 37, 38, 39, 40, 41, 42, 43, 44, 45, 46, 47, 48, 49, 50, 51, 52, 53, 54, 55, 56, 57, 58, 59, 60, 61, 62, 63, 64, 65, 66, 67, 68, 69, 70, 71, 72, 73, 74, 75, 76, 77, 78, 79, 80, 81, 82, 83, 84, 85, 86, 87, 88, 89, 90, 91, 92, 93, 94, 95, 96, 97, 98, 99, 100, 101, 102, 103, 104, 105, 106, 107, 108, 109, 110, 111, 112, 113, 114, 115, 116, 117, 118, 119, 120, 121, 122, 123, 124, 125, 126, 127, 128, 129, 130, 131, 132, 133, 134, 135, 136, 137, 138, 139, 140, 141, 142, 143, 144, 145, 146, 147, 148, 149, 150, 151, 152, 153, 154, 155, 156, 157, 158, 159, 160, 161, 162, 163, 164, 165, 166, 167, 168, 169, 170, 171, 172, 173, 174, 175, 176, 177, 178, 179, 180, 181, 182, 183, 184, 185, 186, 187, 188, 189]
def o4_128 : List AOper := [⟨some 24, .mv (.const (.int .i64 0)), none⟩]
def o4_133 : List AOper := [⟨some 160, .mv (.tmp 24), none⟩,
  ⟨some 161, .mv (.tmp 11), none⟩,
  ⟨some 162, .bin .lss (.tmp 160) (.tmp 161), none⟩]
def o4_140 : List AOper := [⟨some 165, .mv (.tmp 15), none⟩,
  ⟨some 166, .mv (.tmp 24), none⟩,
  ⟨some 167, .indexAddr 1 (.tmp 165) (.tmp 166), none⟩,
  ⟨some 168, .load false [.ptr] (.tmp 167), none⟩,
  ⟨some 169, .call false (.func 19) [.tmp 168] [(false, [.bool])] true, none⟩,
  ⟨some 170, .un .not (.tmp 169), none⟩]
def o4_143 : List AOper := [⟨some 8, .mv (.const (.bool false)), none⟩]
def o4_146 : List AOper := [⟨some 163, .mv (.tmp 24), none⟩,
  ⟨some 164, .bin .add (.tmp 163) (.const (.int .i64 1)), none⟩,
  ⟨some 24, .mv (.tmp 164), none⟩]
def c4_146 : ACode := .ops o4_146
def b4_130 : ACode := .post (.seq (.seq (.ops o4_133) (.cond (.tmp 162) (.skip) (.exit 8))) (.seq (.block 9 (.seq (.ops o4_140) (.cond (.tmp 170) (.seq (.ops o4_143) (.ret)) (.skip)))) (.clear [0, 1, 2, 3, 4, 5, 6, 7, 8, 13, 16, 17, 18, 19, 20, 21, 22, 23, 25, 26, 27, 28, 29, 30, 31, 32, 33, 34, 35, 36, 37, 38, 39, 40, 41, 42, 43, 44, 45, 46, 47, 48, 49, 50, 51, 52, 53, 54, 55, 56, 57, 58, 59, 60, 61, 62, 63, 64, 65, 66, 67, 68, 69, 70, 71, 72, 73, 74, 75, 76, 77, 78, 79, 80, 81, 82, 83, 84, 85, 86, 87, 88, 89, 90, 91, 92, 93, 94, 95, 96, 97, 98, 99, 100, 101, 102, 103, 104, 105, 106, 107, 108, 109, 110, 111, 112, 113, 114, 115, 116, 117, 118, 119, 120, 121, 122, 123, 124, 125, 126, 127, 128, 129, 130, 131, 132, 133, 134, 135, 136, 137, 138, 139, 140, 141, 142, 143, 144, 145, 146, 147, 148, 149, 150, 151, 152, 153, 154, 155, 156, 157, 158, 159, 160, 161, 162, 163, 164, 165, 166, 167, 168, 169, 170, 171, 172, 173, 174, 175, 176, 177, 178, 179, 180, 181, 182, 183, 184, 185, 186, 187, 188, 189] c4_146))) [0, 1, 2, 3, 4, 5, 6, 7, 8, 13, 16, 17, 18, 19, 20, 21, 22, 23, 25, 26, 27, 28, 29, 30, 31, 32, 33, 34, 35, 36, 37, 38, 39, 40, 41, 42, 43, 44, 45, 46, 47, 48, 49, 50, 51, 52, 53, 54, 55, 56, 57, 58, 59, 60, 61, 62, 63, 64, 65, 66, 67, 68, 69, 70, 71, 72, 73, 74, 75, 76, 77, 78, 79, 80, 81, 82, 83, 84, 85, 86, 87, 88, 89, 90, 91, 92, 93, 94, 95, 96, 97, 98, 99, 100, 101, 102, 103, 104, 105, 106, 107, 108, 109, 110, 111, 112, 113, 114, 115, 116, 117, 118, 119, 120, 121, 122, 123, 124, 125, 126, 127, 128, 129, 130, 131, 132, 133, 134, 135, 136, 137, 138, 139, 140, 141, 142, 143, 144, 145, 146, 147, 148, 149, 150, 151, 152, 153, 154, 155, 156, 157, 158, 159, 160, 161, 162, 163, 164, 165, 166, 167, 168, 169, 170, 171, 172, 173, 174, 175, 176, 177, 178, 179, 180, 181, 182, 183, 184, 185, 186, 187, 188, 189]
def o4_148 : List AOper := [⟨some 172, .mv (.tmp 12), none⟩,
  ⟨some 173, .call false (.func 22) [.tmp 172, .const (.int .i64 0)] [(false, [.int .u64]), (false, [.bool])] false, none⟩,
  ⟨some 171, .mv (.tmp 173), none⟩,
  ⟨some 174, .extract (.tmp 171) 0, none⟩,
  ⟨some 175, .extract (.tmp 171) 1, none⟩,
  ⟨some 25, .mv (.tmp 174), none⟩,
  ⟨some 26, .mv (.tmp 175), none⟩]
def o4_150 : List AOper := [⟨some 176, .mv (.tmp 25), none⟩,
  ⟨some 177, .mv (.tmp 9), none⟩,
  ⟨some 178, .conv .u64 (.tmp 177), none⟩,
  ⟨some 179, .bin .eql (.tmp 176) (.tmp 178), none⟩,
  ⟨some 180, .mv (.tmp 179), none⟩,
  ⟨some 181, .mv (.tmp 14), some (180, true)⟩,
  ⟨some 182, .mv (.tmp 9), some (180, true)⟩,
  ⟨some 183, .mv (.tmp 10), some (180, true)⟩,
  ⟨some 184, .call true (.func 23) [.tmp 182, .tmp 183] [(false, [.int .i64])] true, some (180, true)⟩,
  ⟨some 185, .bin .eql (.tmp 181) (.tmp 184), some (180, true)⟩,
  ⟨some 186, .pick (.tmp 180) (.tmp 185) (.const (.bool false)), none⟩,
  ⟨some 187, .mv (.tmp 186), none⟩,
  ⟨some 188, .call true (.func 10) [] [(false, [.bool])] true, some (187, true)⟩,
  ⟨some 189, .pick (.tmp 187) (.tmp 188) (.const (.bool false)), none⟩,
  ⟨some 8, .mv (.tmp 189), none⟩]
def c4_147 : ACode := .seq (.ops o4_148) (.seq (.ops o4_150) (.ret))
def c4_126 : ACode := .seq (.seq (.ops o4_128) (.block 8 (.clear [0, 1, 2, 3, 4, 5, 6, 7, 8, 13, 16, 17, 18, 19, 20, 21, 22, 23, 25, 26, 27, 28, 29, 30, 31, 32, 33, 34, 35, 36, 37, 38, 39, 40, 41, 42, 43, 44, 45, 46, 47, 48, 49, 50, 51, 52, 53, 54, 55, 56, 57, 58, 59, 60, 61, 62, 63, 64, 65, 66, 67, 68, 69, 70, 71, 72, 73, 74, 75, 76, 77, 78, 79, 80, 81, 82, 83, 84, 85, 86, 87, 88, 89, 90, 91, 92, 93, 94, 95, 96, 97, 98, 99, 100, 101, 102, 103, 104, 105, 106, 107, 108, 109, 110, 111, 112, 113, 114, 115, 116, 117, 118, 119, 120, 121, 122, 123, 124, 125, 126, 127, 128, 129, 130, 131, 132, 133, 134, 135, 136, 137, 138, 139, 140, 141, 142, 143, 144, 145, 146, 147, 148, 149, 150, 151, 152, 153, 154, 155, 156, 157, 158, 159, 160, 161, 162, 163, 164, 165, 166, 167, 168, 169, 170, 171, 172, 173, 174, 175, 176, 177, 178, 179, 180, 181, 182, 183, 184, 185, 186, 187, 188, 189] (.loop b4_130)))) (.clear [0, 1, 2, 3, 4, 5, 6, 7, 8, 11, 13, 15, 16, 17, 18, 19, 20, 21, 22, 23, 24, 25, 26, 27, 28, 29, 30, 31, 32, 33, 34, 35, 36, 37, 38, 39, 40, 41, 42, 43, 44, 45, 46, 47, 48, 49, 50, 51, 52, 53, 54, 55, 56, 57, 58, 59, 60, 61, 62, 63, 64, 65, 66, 67, 68, 69, 70, 71, 72, 73, 74, 75, 76, 77, 78, 79, 80, 81, 82, 83, 84, 85, 86, 87, 88, 89, 90, 91, 92, 93, 94, 95, 96, 97, 98, 99, 100, 101, 102, 103, 104, 105, 106, 107, 108, 109, 110, 111, 112, 113, 114, 115, 116, 117, 118, 119, 120, 121, 122, 123, 124, 125, 126, 127, 128, 129, 130, 131, 132, 133, 134, 135, 136, 137, 138, 139, 140, 141, 142, 143, 144, 145, 146, 147, 148, 149, 150, 151, 152, 153, 154, 155, 156, 157, 158, 159, 160, 161, 162, 163, 164, 165, 166, 167, 168, 169, 170, 171, 172, 173, 174, 175, 176, 177, 178, 179, 180, 181, 182, 183, 184, 185, 186, 187, 188, 189] c4_147)
def c4_105 : ACode := .seq (.seq (.ops o4_107) (.block 6 (.clear [0, 1, 2, 3, 4, 5, 6, 7, 8, 16, 17, 18, 19, 20, 21, 22, 24, 25, 26, 27, 28, 29, 30, 31, 32, 33, 34, 35, 36, 37, 38, 39, 40, 41, 42, 43, 44, 45, 46, 47, 48, 49, 50, 51, 52, 53, 54, 55, 56, 57, 58, 59, 60, 61, 62, 63, 64, 65, 66, 67, 68, 69, 70, 71, 72, 73, 74, 75, 76, 77, 78, 79, 80, 81, 82, 83, 84, 85, 86, 87, 88, 89, 90, 91, 92, 93, 94, 95, 96, 97, 98, 99, 100, 101, 102, 103, 104, 105, 106, 107, 108, 109, 110, 111, 112, 113, 114, 115, 116, 117, 118, 119, 120, 121, 122, 123, 124, 125, 126, 127, 128, 129, 130, 131, 132, 133, 134, 135, 136, 137, 138, 139, 140, 141, 142, 143, 144, 145, 146, 147, 148, 149, 150, 151, 152, 153, 154, 155, 156, 157, 158, 159, 160, 161, 162, 163, 164, 165, 166, 167, 168, 169, 170, 171, 172, 173, 174, 175, 176, 177, 178, 179, 180, 181, 182, 183, 184, 185, 186, 187, 188, 189] (.loop b4_109)))) (.clear [0, 1, 2, 3, 4, 5, 6, 7, 8, 13, 16, 17, 18, 19, 20, 21, 22, 23, 24, 25, 26, 27, 28, 29, 30, 31, 32, 33, 34, 35, 36, 37, 38, 39, 40, 41, 42, 43, 44, 45, 46, 47, 48, 49, 50, 51, 52, 53, 54, 55, 56, 57, 58, 59, 60, 61, 62, 63, 64, 65, 66, 67, 68, 69, 70, 71, 72, 73, 74, 75, 76, 77, 78, 79, 80, 81, 82, 83, 84, 85, 86, 87, 88, 89, 90, 91, 92, 93, 94, 95, 96, 97, 98, 99, 100, 101, 102, 103, 104, 105, 106, 107, 108, 109, 110, 111, 112, 113, 114, 115, 116, 117, 118, 119, 120, 121, 122, 123, 124, 125, 126, 127, 128, 129, 130, 131, 132, 133, 134, 135, 136, 137, 138, 139, 140, 141, 142, 143, 144, 145, 146, 147, 148, 149, 150, 151, 152, 153, 154, 155, 156, 157, 158, 159, 160, 161, 162, 163, 164, 165, 166, 167, 168, 169, 170, 171, 172, 173, 174, 175, 176, 177, 178, 179, 180, 181, 182, 183, 184, 185, 186, 187, 188, 189] c4_126)
def c4_35 : ACode := .seq (.seq (.ops o4_37) (.block 2 (.clear [0, 1, 2, 4, 5, 6, 7, 8, 16, 18, 19, 20, 21, 22, 23, 24, 25, 26, 27, 28, 29, 30, 31, 32, 33, 34, 35, 36, 37, 38, 39, 40, 41, 42, 43, 44, 45, 46, 47, 48, 49, 50, 51, 52, 53, 54, 55, 56, 57, 58, 59, 60, 61, 62, 63, 64, 65, 66, 67, 68, 69, 70, 71, 72, 73, 74, 75, 76, 77, 78, 79, 80, 81, 82, 83, 84, 85, 86, 87, 88, 89, 90, 91, 92, 93, 94, 95, 96, 97, 98, 99, 100, 101, 102, 103, 104, 105, 106, 107, 108, 109, 110, 111, 112, 113, 114, 115, 116, 117, 118, 119, 120, 121, 122, 123, 124, 125, 126, 127, 128, 129, 130, 131, 132, 133, 134, 135, 136, 137, 138, 139, 140, 141, 142, 143, 144, 145, 146, 147, 148, 149, 150, 151, 152, 153, 154, 155, 156, 157, 158, 159, 160, 161, 162, 163, 164, 165, 166, 167, 168, 169, 170, 171, 172, 173, 174, 175, 176, 177, 178, 179, 180, 181, 182, 183, 184, 185, 186, 187, 188, 189] (.loop b4_39)))) (.clear [0, 1, 2, 3, 4, 5, 6, 7, 8, 16, 17, 18, 19, 20, 21, 22, 23, 24, 25, 26, 27, 28, 29, 30, 31, 32, 33, 34, 35, 36, 37, 38, 39, 40, 41, 42, 43, 44, 45, 46, 47, 48, 49, 50, 51, 52, 53, 54, 55, 56, 57, 58, 59, 60, 61, 62, 63, 64, 65, 66, 67, 68, 69, 70, 71, 72, 73, 74, 75, 76, 77, 78, 79, 80, 81, 82, 83, 84, 85, 86, 87, 88, 89, 90, 91, 92, 93, 94, 95, 96, 97, 98, 99, 100, 101, 102, 103, 104, 105, 106, 107, 108, 109, 110, 111, 112, 113, 114, 115, 116, 117, 118, 119, 120, 121, 122, 123, 124, 125, 126, 127, 128, 129, 130, 131, 132, 133, 134, 135, 136, 137, 138, 139, 140, 141, 142, 143, 144, 145, 146, 147, 148, 149, 150, 151, 152, 153, 154, 155, 156, 157, 158, 159, 160, 161, 162, 163, 164, 165, 166, 167, 168, 169, 170, 171, 172, 173, 174, 175, 176, 177, 178, 179, 180, 181, 182, 183, 184, 185, 186, 187, 188, 189] c4_105)
def c4_0 : ACode := .seq (.ops o4_1) (.seq (.seq (.ops o4_4) (.cond (.tmp 29) (.seq (.ops o4_7) (.ret)) (.skip))) (.seq (.ops o4_11) (.seq (.ops o4_13) (.seq (.ops o4_15) (.seq (.ops o4_17) (.seq (.ops o4_19) (.seq (.seq (.ops o4_22) (.block 0 (.clear [0, 1, 2, 4, 5, 6, 7, 8, 17, 18, 19, 20, 21, 22, 23, 24, 25, 26, 27, 28, 29, 30, 31, 32, 33, 34, 35, 36, 37, 38, 39, 40, 41, 42, 43, 44, 45, 46, 47, 48, 49, 50, 51, 52, 53, 54, 55, 56, 57, 58, 59, 60, 61, 62, 63, 64, 65, 66, 67, 68, 69, 70, 71, 72, 73, 74, 75, 76, 77, 78, 79, 80, 81, 82, 83, 84, 85, 86, 87, 88, 89, 90, 91, 92, 93, 94, 95, 96, 97, 98, 99, 100, 101, 102, 103, 104, 105, 106, 107, 108, 109, 110, 111, 112, 113, 114, 115, 116, 117, 118, 119, 120, 121, 122, 123, 124, 125, 126, 127, 128, 129, 130, 131, 132, 133, 134, 135, 136, 137, 138, 139, 140, 141, 142, 143, 144, 145, 146, 147, 148, 149, 150, 151, 152, 153, 154, 155, 156, 157, 158, 159, 160, 161, 162, 163, 164, 165, 166, 167, 168, 169, 170, 171, 172, 173, 174, 175, 176, 177, 178, 179, 180, 181, 182, 183, 184, 185, 186, 187, 188, 189] (.loop b4_24)))) (.clear [0, 1, 2, 4, 5, 6, 7, 8, 16, 17, 18, 19, 20, 21, 22, 23, 24, 25, 26, 27, 28, 29, 30, 31, 32, 33, 34, 35, 36, 37, 38, 39, 40, 41, 42, 43, 44, 45, 46, 47, 48, 49, 50, 51, 52, 53, 54, 55, 56, 57, 58, 59, 60, 61, 62, 63, 64, 65, 66, 67, 68, 69, 70, 71, 72, 73, 74, 75, 76, 77, 78, 79, 80, 81, 82, 83, 84, 85, 86, 87, 88, 89, 90, 91, 92, 93, 94, 95, 96, 97, 98, 99, 100, 101, 102, 103, 104, 105, 106, 107, 108, 109, 110, 111, 112, 113, 114, 115, 116, 117, 118, 119, 120, 121, 122, 123, 124, 125, 126, 127, 128, 129, 130, 131, 132, 133, 134, 135, 136, 137, 138, 139, 140, 141, 142, 143, 144, 145, 146, 147, 148, 149, 150, 151, 152, 153, 154, 155, 156, 157, 158, 159, 160, 161, 162, 163, 164, 165, 166, 167, 168, 169, 170, 171, 172, 173, 174, 175, 176, 177, 178, 179, 180, 181, 182, 183, 184, 185, 186, 187, 188, 189] c4_35))))))))
def a4 : AFun := ⟨190, [.tmp 8], c4_0⟩
theorem ok4 : OkFun Try.prog 4 a4 := ⟨Try.f4, Try.f4.body.getD .skip, Try.func4, by kernel_rfl, by kernel_rfl, by kernel_rfl, by kernel_rfl, by kernel_rfl⟩
/-! #### skylightlaw51.MipBetween -/
def o5_1 : List AOper := [⟨some 2, .box (.tmp 0), none⟩,
  ⟨some 4, .mv (.const (.bool false)), none⟩]
def o5_4 : List AOper := [⟨some 19, .load true [.int .i64, .int .i64, .slice] (.tmp 2), none⟩,
  ⟨some 20, .call false (.func 25) [.tmp 19] [(false, [.bool])] true, none⟩,
  ⟨some 21, .un .not (.tmp 20), none⟩,
  ⟨some 22, .mv (.tmp 21), none⟩,
  ⟨some 23, .fieldAddr 2 (.tmp 2), some (22, false)⟩,
  ⟨some 24, .load false [.slice] (.tmp 23), some (22, false)⟩,
  ⟨some 25, .len (.tmp 24), some (22, false)⟩,
  ⟨some 26, .bin .gtr (.tmp 25) (.const (.int .i64 40)), some (22, false)⟩,
  ⟨some 27, .pick (.tmp 22) (.const (.bool true)) (.tmp 26), none⟩]
def o5_7 : List AOper := [⟨some 28, .call true (.func 26) [] [(false, [.bool])] true, none⟩,
  ⟨some 4, .mv (.tmp 28), none⟩]
def o5_11 : List AOper := [⟨some 29, .load true [.int .i64, .int .i64, .slice] (.tmp 2), none⟩,
  ⟨some 30, .call false (.func 28) [.tmp 29] [(true, [.int .i64, .int .i64, .slice])] true, none⟩,
  ⟨some 31, .call false (.func 27) [.tmp 30] [(true, [.int .i64, .int .i64, .slice])] true, none⟩,
  ⟨some 5, .alloc [.int .i64 0, .int .i64 0, .slice none 0 0], none⟩,
  ⟨none, .store 3 (.tmp 5) (.tmp 31), none⟩]
def o5_14 : List AOper := [⟨some 6, .mv (.const (.int .i64 0)), none⟩]
def o5_19 : List AOper := [⟨some 32, .mv (.tmp 6), none⟩,
  ⟨some 33, .bin .lss (.tmp 32) (.const (.int .i64 3)), none⟩]
def o5_26 : List AOper := [⟨some 7, .mv (.const (.int .i64 255)), none⟩,
  ⟨some 8, .mv (.const (.int .i64 0)), none⟩]
def o5_29 : List AOper := [⟨some 9, .mv (.const (.int .i64 0)), none⟩]
def o5_34 : List AOper := [⟨some 36, .mv (.tmp 9), none⟩,
  ⟨some 37, .fieldAddr 2 (.tmp 2), none⟩,
  ⟨some 38, .load false [.slice] (.tmp 37), none⟩,
  ⟨some 39, .len (.tmp 38), none⟩,
  ⟨some 40, .bin .lss (.tmp 36) (.tmp 39), none⟩]
def c5_35 : ACode := .cond (.tmp 40) (.skip) (.exit 2)
def o5_41 : List AOper := [⟨some 43, .mv (.tmp 7), none⟩,
  ⟨some 44, .fieldAddr 2 (.tmp 2), none⟩,
  ⟨some 45, .load false [.slice] (.tmp 44), none⟩,
  ⟨some 46, .mv (.tmp 9), none⟩,
  ⟨some 47, .mv (.tmp 6), none⟩,
  ⟨some 48, .indexAddr 3 (.tmp 45) (.tmp 46), none⟩,
  ⟨some 49, .indexArr 3 1 (.tmp 48) (.tmp 47), none⟩,
  ⟨some 50, .load false [.int .i64] (.tmp 49), none⟩,
  ⟨some 51, .minmax false [.tmp 43, .tmp 50], none⟩,
  ⟨some 7, .mv (.tmp 51), none⟩]
def o5_42 : List AOper := [⟨some 52, .mv (.tmp 8), none⟩,
  ⟨some 53, .fieldAddr 2 (.tmp 2), none⟩,
  ⟨some 54, .load false [.slice] (.tmp 53), none⟩,
  ⟨some 55, .mv (.tmp 9), none⟩,
  ⟨some 56, .mv (.tmp 6), none⟩,
  ⟨some 57, .indexAddr 3 (.tmp 54) (.tmp 55), none⟩,
  ⟨some 58, .indexArr 3 1 (.tmp 57) (.tmp 56), none⟩,
  ⟨some 59, .load false [.int .i64] (.tmp 58), none⟩,
  ⟨some 60, .minmax true [.tmp 52, .tmp 59], none⟩,
  ⟨some 8, .mv (.tmp 60), none⟩]
def o5_43 : List AOper := [⟨some 41, .mv (.tmp 9), none⟩,
  ⟨some 42, .bin .add (.tmp 41) (.const (.int .i64 1)), none⟩,
  ⟨some 9, .mv (.tmp 42), none⟩]
def c5_43 : ACode := .ops o5_43
def b5_31 : ACode := .post (.seq (.seq (.ops o5_34) (.clear [0, 3, 4, 10, 11, 12, 13, 14, 15, 16, 17, 18, 19, 20, 21, 22, 23, 24, 25, 26, 27, 28, 29, 30, 31, 32, 33, 34, 35, 36, 37, 38, 39, 41, 42, 43, 44, 45, 46, 47, 48, 49, 50, 51, 52, 53, 54, 55, 56, 57, 58, 59, 60, 61, 62, 63, 64, 65, 66, 67, 68, 69, 70, 71, 72, 73, 74, 75, 76, 77, 78, 79, 80, 81, 82, 83, 84, 85, 86, 87, 88, 89, 90, 91, 92, 93, 94, 95, 96, 97, 98, 99, 100, 101, 102, 103, 104, 105, 106, 107, 108, 109, 110, 111, 112, 113, 114, 115, 116, 117, 118, 119, 120, 121, 122, 123, 124, 125, 126, 127, 128, 129, 130, 131, 132, 133, 134, 135, 136, 137, 138, 139, 140, 141, 142, 143, 144, 145, 146, 147, 148, 149, 150, 151, 152, 153, 154, 155, 156, 157, 158, 159, 160, 161, 162, 163, 164, 165, 166, 167, 168, 169, 170, 171, 172, 173, 174, 175, 176, 177, 178, 179, 180, 181, 182, 183, 184, 185, 186, 187, 188, 189, 190, 191, 192, 193, 194, 195, 196, 197, 198, 199, 200, 201, 202, 203, 204, 205, 206, 207, 208] c5_35)) (.seq (.block 3 (.seq (.ops o5_41) (.ops o5_42))) (.clear [0, 3, 4, 10, 11, 12, 13, 14, 15, 16, 17, 18, 19, 20, 21, 22, 23, 24, 25, 26, 27, 28, 29, 30, 31, 32, 33, 34, 35, 36, 37, 38, 39, 40, 41, 42, 43, 44, 45, 46, 47, 48, 49, 50, 51, 52, 53, 54, 55, 56, 57, 58, 59, 60, 61, 62, 63, 64, 65, 66, 67, 68, 69, 70, 71, 72, 73, 74, 75, 76, 77, 78, 79, 80, 81, 82, 83, 84, 85, 86, 87, 88, 89, 90, 91, 92, 93, 94, 95, 96, 97, 98, 99, 100, 101, 102, 103, 104, 105, 106, 107, 108, 109, 110, 111, 112, 113, 114, 115, 116, 117, 118, 119, 120, 121, 122, 123, 124, 125, 126, 127, 128, 129, 130, 131, 132, 133, 134, 135, 136, 137, 138, 139, 140, 141, 142, 143, 144, 145, 146, 147, 148, 149, 150, 151, 152, 153, 154, 155, 156, 157, 158, 159, 160, 161, 162, 163, 164, 165, 166, 167, 168, 169, 170, 171, 172, 173, 174, 175, 176, 177, 178, 179, 180, 181, 182, 183, 184, 185, 186, 187, 188, 189, 190, 191, 192, 193, 194, 195, 196, 197, 198, 199, 200, 201, 202, 203, 204, 205, 206, 207, 208] c5_43))) [0, 3, 4, 10, 11, 12, 13, 14, 15, 16, 17, 18, 19, 20, 21, 22, 23, 24, 25, 26, 27, 28, 29, 30, 31, 32, 33, 34, 35, 36, 37, 38, 39, 40, 41, 42, 43, 44, 45, 46, 47, 48, 49, 50, 51, 52, 53, 54, 55, 56, 57, 58, 59, 60, 61, 62, 63, 64, 65, 66, 67, 68, 69, 70, 71, 72, 73, 74, 75, 76, 77, 78, 79, 80, 81, 82, 83, 84, 85, 86, 87, 88, 89, 90, 91, 92, 93, 94, 95, 96, 97, 98, 99, 100, 101, 102, 103, 104, 105, 106, 107, 108, 109, 110, 111, 112, 113, 114, 115, 116, 117, 118, 119, 120, 121, 122, 123, 124, 125, 126, 127, 128, 129, 130, 131, 132, 133, 134, 135, 136, 137, 138, 139, 140, 141, 142, 143, 144, 145, 146, 147, 148, 149, 150, 151, 152, 153, 154, 155, 156, 157, 158, 159, 160, 161, 162, 163, 164, 165, 166, 167, 168, 169, 170, 171, 172, 173, 174, 175, 176, 177, 178, 179, 180, 181, 182, 183, 184, 185, 186, 187, 188, 189, 190, 191, 192, 193, 194, 195, 196, 197, 198, 199, 200, 201, 202, 203, 204, 205, 206, 207, 208]
def o5_45 : List AOper := [⟨some 10, .mv (.const (.int .i64 0)), none⟩]
def o5_50 : List AOper := [⟨some 61, .mv (.tmp 10), none⟩,
  ⟨some 62, .fieldAddr 2 (.tmp 5), none⟩,
  ⟨some 63, .load false [.slice] (.tmp 62), none⟩,
  ⟨some 64, .len (.tmp 63), none⟩,
  ⟨some 65, .bin .lss (.tmp 61) (.tmp 64), none⟩]
def o5_57 : List AOper := [⟨some 68, .fieldAddr 2 (.tmp 5), none⟩,
  ⟨some 69, .load false [.slice] (.tmp 68), none⟩,
  ⟨some 70, .mv (.tmp 10), none⟩,
  ⟨some 71, .mv (.tmp 6), none⟩,
  ⟨some 72, .indexAddr 3 (.tmp 69) (.tmp 70), none⟩,
  ⟨some 73, .indexArr 3 1 (.tmp 72) (.tmp 71), none⟩,
  ⟨some 74, .load false [.int .i64] (.tmp 73), none⟩,
  ⟨some 75, .mv (.tmp 7), none⟩,
  ⟨some 76, .bin .lss (.tmp 74) (.tmp 75), none⟩,
  ⟨some 77, .mv (.tmp 76), none⟩,
  ⟨some 78, .fieldAddr 2 (.tmp 5), some (77, false)⟩,
  ⟨some 79, .load false [.slice] (.tmp 78), some (77, false)⟩,
  ⟨some 80, .mv (.tmp 10), some (77, false)⟩,
  ⟨some 81, .mv (.tmp 6), some (77, false)⟩,
  ⟨some 82, .indexAddr 3 (.tmp 79) (.tmp 80), some (77, false)⟩,
  ⟨some 83, .indexArr 3 1 (.tmp 82) (.tmp 81), some (77, false)⟩,
  ⟨some 84, .load false [.int .i64] (.tmp 83), some (77, false)⟩,
  ⟨some 85, .mv (.tmp 8), some (77, false)⟩,
  ⟨some 86, .bin .gtr (.tmp 84) (.tmp 85), some (77, false)⟩,
  ⟨some 87, .pick (.tmp 77) (.const (.bool true)) (.tmp 86), none⟩]
def o5_60 : List AOper := [⟨some 4, .mv (.const (.bool false)), none⟩]
def o5_63 : List AOper := [⟨some 66, .mv (.tmp 10), none⟩,
  ⟨some 67, .bin .add (.tmp 66) (.const (.int .i64 1)), none⟩,
  ⟨some 10, .mv (.tmp 67), none⟩]
def c5_63 : ACode := .ops o5_63
def b5_47 : ACode := .post (.seq (.seq (.ops o5_50) (.cond (.tmp 65) (.skip) (.exit 4))) (.seq (.block 5 (.seq (.ops o5_57) (.cond (.tmp 87) (.seq (.ops o5_60) (.ret)) (.skip)))) (.clear [0, 3, 4, 9, 11, 12, 13, 14, 15, 16, 17, 18, 19, 20, 21, 22, 23, 24, 25, 26, 27, 28, 29, 30, 31, 32, 33, 34, 35, 36, 37, 38, 39, 40, 41, 42, 43, 44, 45, 46, 47, 48, 49, 50, 51, 52, 53, 54, 55, 56, 57, 58, 59, 60, 61, 62, 63, 64, 65, 66, 67, 68, 69, 70, 71, 72, 73, 74, 75, 76, 77, 78, 79, 80, 81, 82, 83, 84, 85, 86, 87, 88, 89, 90, 91, 92, 93, 94, 95, 96, 97, 98, 99, 100, 101, 102, 103, 104, 105, 106, 107, 108, 109, 110, 111, 112, 113, 114, 115, 116, 117, 118, 119, 120, 121, 122, 123, 124, 125, 126, 127, 128, 129, 130, 131, 132, 133, 134, 135, 136, 137, 138, 139, 140, 141, 142, 143, 144, 145, 146, 147, 148, 149, 150, 151, 152, 153, 154, 155, 156, 157, 158, 159, 160, 161, 162, 163, 164, 165, 166, 167, 168, 169, 170, 171, 172, 173, 174, 175, 176, 177, 178, 179, 180, 181, 182, 183, 184, 185, 186, 187, 188, 189, 190, 191, 192, 193, 194, 195, 196, 197, 198, 199, 200, 201, 202, 203, 204, 205, 206, 207, 208] c5_63))) [0, 3, 4, 9, 11, 12, 13, 14, 15, 16, 17, 18, 19, 20, 21, 22, 23, 24, 25, 26, 27, 28, 29, 30, 31, 32, 33, 34, 35, 36, 37, 38, 39, 40, 41, 42, 43, 44, 45, 46, 47, 48, 49, 50, 51, 52, 53, 54, 55, 56, 57, 58, 59, 60, 61, 62, 63, 64, 65, 66, 67, 68, 69, 70, 71, 72, 73, 74, 75, 76, 77, 78, 79, 80, 81, 82, 83, 84, 85, 86, 87, 88, 89, 90, 91, 92, 93, 94, 95, 96, 97, 98, 99, 100, 101, 102, 103, 104, 105, 106, 107, 108, 109, 110, 111, 112, 113, 114, 115, 116, 117, 118, 119, 120, 121, 122, 123, 124, 125, 126, 127, 128, 129, 130, 131, 132, 133, 134, 135, 136, 137, 138, 139, 140, 141, 142, 143, 144, 145, 146, 147, 148, 149, 150, 151, 152, 153, 154, 155, 156, 157, 158, 159, 160, 161, 162, 163, 164, 165, 166, 167, 168, 169, 170, 171, 172, 173, 174, 175, 176, 177, 178, 179, 180, 181, 182, 183, 184, 185, 186, 187, 188, 189, 190, 191, 192, 193, 194, 195, 196, 197, 198, 199, 200, 201, 202, 203, 204, 205, 206, 207, 208]
def c5_44 : ACode := .seq (.ops o5_45) (.block 4 (.clear [0, 3, 4, 9, 11, 12, 13, 14, 15, 16, 17, 18, 19, 20, 21, 22, 23, 24, 25, 26, 27, 28, 29, 30, 31, 32, 33, 34, 35, 36, 37, 38, 39, 40, 41, 42, 43, 44, 45, 46, 47, 48, 49, 50, 51, 52, 53, 54, 55, 56, 57, 58, 59, 60, 61, 62, 63, 64, 65, 66, 67, 68, 69, 70, 71, 72, 73, 74, 75, 76, 77, 78, 79, 80, 81, 82, 83, 84, 85, 86, 87, 88, 89, 90, 91, 92, 93, 94, 95, 96, 97, 98, 99, 100, 101, 102, 103, 104, 105, 106, 107, 108, 109, 110, 111, 112, 113, 114, 115, 116, 117, 118, 119, 120, 121, 122, 123, 124, 125, 126, 127, 128, 129, 130, 131, 132, 133, 134, 135, 136, 137, 138, 139, 140, 141, 142, 143, 144, 145, 146, 147, 148, 149, 150, 151, 152, 153, 154, 155, 156, 157, 158, 159, 160, 161, 162, 163, 164, 165, 166, 167, 168, 169, 170, 171, 172, 173, 174, 175, 176, 177, 178, 179, 180, 181, 182, 183, 184, 185, 186, 187, 188, 189, 190, 191, 192, 193, 194, 195, 196, 197, 198, 199, 200, 201, 202, 203, 204, 205, 206, 207, 208] (.loop b5_47)))
def o5_64 : List AOper := [⟨some 34, .mv (.tmp 6), none⟩,
  ⟨some 35, .bin .add (.tmp 34) (.const (.int .i64 1)), none⟩,
  ⟨some 6, .mv (.tmp 35), none⟩]
def c5_64 : ACode := .ops o5_64
def b5_16 : ACode := .post (.seq (.seq (.ops o5_19) (.cond (.tmp 33) (.skip) (.exit 0))) (.seq (.block 1 (.seq (.ops o5_26) (.seq (.seq (.ops o5_29) (.block 2 (.clear [0, 3, 4, 10, 11, 12, 13, 14, 15, 16, 17, 18, 19, 20, 21, 22, 23, 24, 25, 26, 27, 28, 29, 30, 31, 32, 33, 34, 35, 36, 37, 38, 39, 40, 41, 42, 43, 44, 45, 46, 47, 48, 49, 50, 51, 52, 53, 54, 55, 56, 57, 58, 59, 60, 61, 62, 63, 64, 65, 66, 67, 68, 69, 70, 71, 72, 73, 74, 75, 76, 77, 78, 79, 80, 81, 82, 83, 84, 85, 86, 87, 88, 89, 90, 91, 92, 93, 94, 95, 96, 97, 98, 99, 100, 101, 102, 103, 104, 105, 106, 107, 108, 109, 110, 111, 112, 113, 114, 115, 116, 117, 118, 119, 120, 121, 122, 123, 124, 125, 126, 127, 128, 129, 130, 131, 132, 133, 134, 135, 136, 137, 138, 139, 140, 141, 142, 143, 144, 145, 146, 147, 148, 149, 150, 151, 152, 153, 154, 155, 156, 157, 158, 159, 160, 161, 162, 163, 164, 165, 166, 167, 168, 169, 170, 171, 172, 173, 174, 175, 176, 177, 178, 179, 180, 181, 182, 183, 184, 185, 186, 187, 188, 189, 190, 191, 192, 193, 194, 195, 196, 197, 198, 199, 200, 201, 202, 203, 204, 205, 206, 207, 208] (.loop b5_31)))) (.clear [0, 3, 4, 9, 10, 11, 12, 13, 14, 15, 16, 17, 18, 19, 20, 21, 22, 23, 24, 25, 26, 27, 28, 29, 30, 31, 32, 33, 34, 35, 36, 37, 38, 39, 40, 41, 42, 43, 44, 45, 46, 47, 48, 49, 50, 51, 52, 53, 54, 55, 56, 57, 58, 59, 60, 61, 62, 63, 64, 65, 66, 67, 68, 69, 70, 71, 72, 73, 74, 75, 76, 77, 78, 79, 80, 81, 82, 83, 84, 85, 86, 87, 88, 89, 90, 91, 92, 93, 94, 95, 96, 97, 98, 99, 100, 101, 102, 103, 104, 105, 106, 107, 108, 109, 110, 111, 112, 113, 114, 115, 116, 117, 118, 119, 120, 121, 122, 123, 124, 125, 126, 127, 128, 129, 130, 131, 132, 133, 134, 135, 136, 137, 138, 139, 140, 141, 142, 143, 144, 145, 146, 147, 148, 149, 150, 151, 152, 153, 154, 155, 156, 157, 158, 159, 160, 161, 162, 163, 164, 165, 166, 167, 168, 169, 170, 171, 172, 173, 174, 175, 176, 177, 178, 179, 180, 181, 182, 183, 184, 185, 186, 187, 188, 189, 190, 191, 192, 193, 194, 195, 196, 197, 198, 199, 200, 201, 202, 203, 204, 205, 206, 207, 208] c5_44)))) (.clear [0, 3, 4, 7, 8, 9, 10, 11, 12, 13, 14, 15, 16, 17, 18, 19, 20, 21, 22, 23, 24, 25, 26, 27, 28, 29, 30, 31, 32, 33, 34, 35, 36, 37, 38, 39, 40, 41, 42, 43, 44, 45, 46, 47, 48, 49, 50, 51, 52, 53, 54, 55, 56, 57, 58, 59, 60, 61, 62, 63, 64, 65, 66, 67, 68, 69, 70, 71, 72, 73, 74, 75, 76, 77, 78, 79, 80, 81, 82, 83, 84, 85, 86, 87, 88, 89, 90, 91, 92, 93, 94, 95, 96, 97, 98, 99, 100, 101, 102, 103, 104, 105, 106, 107, 108, 109, 110, 111, 112, 113, 114, 115, 116, 117, 118, 119, 120, 121, 122, 123, 124, 125, 126, 127, 128, 129, 130, 131, 132, 133, 134, 135, 136, 137, 138, 139, 140, 141, 142, 143, 144, 145, 146, 147, 148, 149, 150, 151, 152, 153, 154, 155, 156, 157, 158, 159, 160, 161, 162, 163, 164, 165, 166, 167, 168, 169, 170, 171, 172, 173, 174, 175, 176, 177, 178, 179, 180, 181, 182, 183, 184, 185, 186, 187, 188, 189, 190, 191, 192, 193, 194, 195, 196, 197, 198, 199, 200, 201, 202, 203, 204, 205, 206, 207, 208] c5_64))) [0, 3, 4, 7, 8, 9, 10, 11, 12, 13, 14, 15, 16, 17, 18, 19, 20, 21, 22, 23, 24, 25, 26, 27, 28, 29, 30, 31, 32, 33, 34, 35, 36, 37, 38, 39, 40, 41, 42, 43, 44, 45, 46, 47, 48, 49, 50, 51, 52, 53, 54, 55, 56, 57, 58, 59, 60, 61, 62, 63, 64, 65, 66, 67, 68, 69, 70, 71, 72, 73, 74, 75, 76, 77, 78, 79, 80, 81, 82, 83, 84, 85, 86, 87, 88, 89, 90, 91, 92, 93, 94, 95, 96, 97, 98, 99, 100, 101, 102, 103, 104, 105, 106, 107, 108, 109, 110, 111, 112, 113, 114, 115, 116, 117, 118, 119, 120, 121, 122, 123, 124, 125, 126, 127, 128, 129, 130, 131, 132, 133, 134, 135, 136, 137, 138, 139, 140, 141, 142, 143, 144, 145, 146, 147, 148, 149, 150, 151, 152, 153, 154, 155, 156, 157, 158, 159, 160, 161, 162, 163, 164, 165, 166, 167, 168, 169, 170, 171, 172, 173, 174, 175, 176, 177, 178, 179, 180, 181, 182, 183, 184, 185, 186, 187, 188, 189, 190, 191, 192, 193, 194, 195, 196, 197, 198, 199, 200, 201, 202, 203, 204, 205, 206, 207, 208]
def o5_66 : List AOper := [⟨some 88, .mv (.tmp 1), none⟩,
  ⟨some 89, .conv .i64 (.tmp 88), none⟩,
  ⟨some 90, .fieldAddr 0 (.tmp 2), none⟩,
  ⟨some 91, .load false [.int .i64] (.tmp 90), none⟩,
  ⟨some 92, .bin .rem (.tmp 89) (.tmp 91), none⟩,
  ⟨some 11, .mv (.tmp 92), none⟩]
def o5_68 : List (AOper × Option Nat) := [(⟨some 94, .load true [.int .i64, .int .i64, .slice] (.tmp 2), none⟩, none),
  (⟨some 95, .call false (.func 28) [.tmp 94] [(true, [.int .i64, .int .i64, .slice])] true, none⟩, none),
  (⟨some 96, .mv (.tmp 11), none⟩, none),
  (⟨some 97, .fieldAddr 0 (.tmp 2), none⟩, none),
  (⟨some 98, .load false [.int .i64] (.tmp 97), none⟩, none),
  (⟨some 99, .mv (.tmp 11), none⟩, none),
  (⟨some 100, .bin .sub (.tmp 98) (.tmp 99), none⟩, none),
  (⟨some 101, .fieldAddr 1 (.tmp 2), none⟩, none),
  (⟨some 102, .load false [.int .i64] (.tmp 101), none⟩, none),
  (⟨some 103, .call false (.func 29) [.tmp 95, .tmp 96, .const (.int .i64 0), .tmp 100, .tmp 102] [(true, [.int .i64, .int .i64, .slice]), (false, [.bool])] false, none⟩, none),
  (⟨some 93, .mv (.tmp 103), none⟩, none),
  (⟨some 104, .extract (.tmp 93) 0, none⟩, none),
  (⟨some 105, .extract (.tmp 93) 1, none⟩, none),
  (⟨some 12, .nilCheck (.tmp 12), none⟩, none),
  (⟨none, .store 3 (.tmp 12) (.tmp 104), none⟩, none),
  (⟨some 13, .mv (.tmp 105), none⟩, none)]
def f5_68 : List AOper := [⟨some 12, .alloc [.int .i64 0, .int .i64 0, .slice none 0 0], none⟩]
def o5_70 : List (AOper × Option Nat) := [(⟨some 107, .load true [.int .i64, .int .i64, .slice] (.tmp 2), none⟩, none),
  (⟨some 108, .call false (.func 28) [.tmp 107] [(true, [.int .i64, .int .i64, .slice])] true, none⟩, none),
  (⟨some 109, .mv (.tmp 11), none⟩, none),
  (⟨some 110, .fieldAddr 1 (.tmp 2), none⟩, none),
  (⟨some 111, .load false [.int .i64] (.tmp 110), none⟩, none),
  (⟨some 112, .call false (.func 29) [.tmp 108, .const (.int .i64 0), .const (.int .i64 0), .tmp 109, .tmp 111] [(true, [.int .i64, .int .i64, .slice]), (false, [.bool])] false, none⟩, none),
  (⟨some 106, .mv (.tmp 112), none⟩, none),
  (⟨some 113, .extract (.tmp 106) 0, none⟩, none),
  (⟨some 114, .extract (.tmp 106) 1, none⟩, none),
  (⟨some 14, .nilCheck (.tmp 14), none⟩, none),
  (⟨none, .store 3 (.tmp 14) (.tmp 113), none⟩, none),
  (⟨some 15, .mv (.tmp 114), none⟩, none)]
def f5_70 : List AOper := [⟨some 14, .alloc [.int .i64 0, .int .i64 0, .slice none 0 0], none⟩]
def o5_73 : List AOper := [⟨some 115, .mv (.tmp 13), none⟩,
  ⟨some 116, .un .not (.tmp 115), none⟩,
  ⟨some 117, .mv (.tmp 116), none⟩,
  ⟨some 118, .mv (.tmp 15), some (117, false)⟩,
  ⟨some 119, .mv (.tmp 11), some (117, false)⟩,
  ⟨some 120, .bin .gtr (.tmp 119) (.const (.int .i64 0)), some (117, false)⟩,
  ⟨some 121, .binB true (.tmp 118) (.tmp 120), some (117, false)⟩,
  ⟨some 122, .pick (.tmp 117) (.const (.bool true)) (.tmp 121), none⟩,
  ⟨some 123, .mv (.tmp 122), none⟩,
  ⟨some 124, .fieldAddr 2 (.tmp 12), some (123, false)⟩,
  ⟨some 125, .load false [.slice] (.tmp 124), some (123, false)⟩,
  ⟨some 126, .len (.tmp 125), some (123, false)⟩,
  ⟨some 127, .fieldAddr 0 (.tmp 2), some (123, false)⟩,
  ⟨some 128, .load false [.int .i64] (.tmp 127), some (123, false)⟩,
  ⟨some 129, .mv (.tmp 11), some (123, false)⟩,
  ⟨some 130, .bin .sub (.tmp 128) (.tmp 129), some (123, false)⟩,
  ⟨some 131, .fieldAddr 1 (.tmp 2), some (123, false)⟩,
  ⟨some 132, .load false [.int .i64] (.tmp 131), some (123, false)⟩,
  ⟨some 133, .bin .mul (.tmp 130) (.tmp 132), some (123, false)⟩,
  ⟨some 134, .bin .neq (.tmp 126) (.tmp 133), some (123, false)⟩,
  ⟨some 135, .pick (.tmp 123) (.const (.bool true)) (.tmp 134), none⟩,
  ⟨some 136, .mv (.tmp 135), none⟩,
  ⟨some 137, .fieldAddr 2 (.tmp 14), some (136, false)⟩,
  ⟨some 138, .load false [.slice] (.tmp 137), some (136, false)⟩,
  ⟨some 139, .len (.tmp 138), some (136, false)⟩,
  ⟨some 140, .mv (.tmp 11), some (136, false)⟩,
  ⟨some 141, .fieldAddr 1 (.tmp 2), some (136, false)⟩,
  ⟨some 142, .load false [.int .i64] (.tmp 141), some (136, false)⟩,
  ⟨some 143, .bin .mul (.tmp 140) (.tmp 142), some (136, false)⟩,
  ⟨some 144, .bin .neq (.tmp 139) (.tmp 143), some (136, false)⟩,
  ⟨some 145, .pick (.tmp 136) (.const (.bool true)) (.tmp 144), none⟩]
def o5_76 : List AOper := [⟨some 4, .mv (.const (.bool false)), none⟩]
def c5_74 : ACode := .cond (.tmp 145) (.seq (.ops o5_76) (.ret)) (.skip)
def o5_81 : List AOper := [⟨some 16, .mv (.const (.int .i64 0)), none⟩]
def o5_86 : List AOper := [⟨some 146, .mv (.tmp 16), none⟩,
  ⟨some 147, .fieldAddr 2 (.tmp 2), none⟩,
  ⟨some 148, .load false [.slice] (.tmp 147), none⟩,
  ⟨some 149, .len (.tmp 148), none⟩,
  ⟨some 150, .bin .lss (.tmp 146) (.tmp 149), none⟩]
def o5_93 : List (AOper × Option Nat) := [(⟨some 153, .mv (.tmp 16), none⟩, none),
  (⟨some 154, .fieldAddr 0 (.tmp 2), none⟩, none),
  (⟨some 155, .load false [.int .i64] (.tmp 154), none⟩, none),
  (⟨some 156, .bin .rem (.tmp 153) (.tmp 155), none⟩, none),
  (⟨some 157, .mv (.tmp 16), none⟩, none),
  (⟨some 158, .fieldAddr 0 (.tmp 2), none⟩, none),
  (⟨some 159, .load false [.int .i64] (.tmp 158), none⟩, none),
  (⟨some 160, .bin .quo (.tmp 157) (.tmp 159), none⟩, none),
  (⟨some 17, .mv (.tmp 156), none⟩, none),
  (⟨some 18, .mv (.tmp 160), none⟩, none)]
def o5_95 : List (AOper × Option Nat) := [(⟨some 161, .mv (.tmp 17), none⟩, none),
  (⟨some 162, .mv (.tmp 11), none⟩, none),
  (⟨some 163, .bin .geq (.tmp 161) (.tmp 162), none⟩, none),
  (⟨some 164, .mv (.tmp 163), none⟩, none),
  (⟨some 165, .fieldAddr 2 (.tmp 12), some (164, true)⟩, none),
  (⟨some 166, .load false [.slice] (.tmp 165), some (164, true)⟩, none),
  (⟨some 167, .mv (.tmp 18), some (164, true)⟩, none),
  (⟨some 168, .fieldAddr 0 (.tmp 2), some (164, true)⟩, none),
  (⟨some 169, .load false [.int .i64] (.tmp 168), some (164, true)⟩, none),
  (⟨some 170, .mv (.tmp 11), some (164, true)⟩, none),
  (⟨some 171, .bin .sub (.tmp 169) (.tmp 170), some (164, true)⟩, none),
  (⟨some 172, .bin .mul (.tmp 167) (.tmp 171), some (164, true)⟩, none),
  (⟨some 173, .mv (.tmp 17), some (164, true)⟩, none),
  (⟨some 174, .bin .add (.tmp 172) (.tmp 173), some (164, true)⟩, none),
  (⟨some 175, .mv (.tmp 11), some (164, true)⟩, none),
  (⟨some 176, .bin .sub (.tmp 174) (.tmp 175), some (164, true)⟩, none),
  (⟨some 177, .indexAddr 3 (.tmp 166) (.tmp 176), some (164, true)⟩, none),
  (⟨some 178, .load true [.int .i64, .int .i64, .int .i64] (.tmp 177), some (164, true)⟩, none),
  (⟨some 179, .fieldAddr 2 (.tmp 2), some (164, true)⟩, none),
  (⟨some 180, .load false [.slice] (.tmp 179), some (164, true)⟩, none),
  (⟨some 181, .mv (.tmp 16), some (164, true)⟩, none),
  (⟨some 182, .indexAddr 3 (.tmp 180) (.tmp 181), some (164, true)⟩, none),
  (⟨some 183, .load true [.int .i64, .int .i64, .int .i64] (.tmp 182), some (164, true)⟩, none),
  (⟨some 184, .eqAgg [.int .i64, .int .i64, .int .i64] true (.tmp 178) (.tmp 183), some (164, true)⟩, none),
  (⟨some 185, .pick (.tmp 164) (.tmp 184) (.const (.bool false)), none⟩, none),
  (⟨some 186, .mv (.tmp 185), none⟩, none),
  (⟨some 187, .mv (.tmp 17), some (186, false)⟩, none),
  (⟨some 188, .mv (.tmp 11), some (186, false)⟩, none),
  (⟨some 189, .bin .lss (.tmp 187) (.tmp 188), some (186, false)⟩, none),
  (⟨some 190, .mv (.tmp 189), some (186, false)⟩, none),
  (⟨some 191, .fieldAddr 2 (.tmp 14), some (190, true)⟩, none),
  (⟨some 192, .load false [.slice] (.tmp 191), some (190, true)⟩, none),
  (⟨some 193, .mv (.tmp 18), some (190, true)⟩, none),
  (⟨some 194, .mv (.tmp 11), some (190, true)⟩, none),
  (⟨some 195, .bin .mul (.tmp 193) (.tmp 194), some (190, true)⟩, none),
  (⟨some 196, .mv (.tmp 17), some (190, true)⟩, none),
  (⟨some 197, .bin .add (.tmp 195) (.tmp 196), some (190, true)⟩, none),
  (⟨some 198, .indexAddr 3 (.tmp 192) (.tmp 197), some (190, true)⟩, none),
  (⟨some 199, .load true [.int .i64, .int .i64, .int .i64] (.tmp 198), some (190, true)⟩, none),
  (⟨some 200, .fieldAddr 2 (.tmp 2), some (190, true)⟩, none),
  (⟨some 201, .load false [.slice] (.tmp 200), some (190, true)⟩, none),
  (⟨some 202, .mv (.tmp 16), some (190, true)⟩, none),
  (⟨some 203, .indexAddr 3 (.tmp 201) (.tmp 202), some (190, true)⟩, none),
  (⟨some 204, .load true [.int .i64, .int .i64, .int .i64] (.tmp 203), some (190, true)⟩, none),
  (⟨some 205, .eqAgg [.int .i64, .int .i64, .int .i64] true (.tmp 199) (.tmp 204), some (190, true)⟩, none),
  (⟨some 206, .pick (.tmp 190) (.tmp 205) (.const (.bool false)), some (186, false)⟩, none),
  (⟨some 207, .pick (.tmp 186) (.const (.bool true)) (.tmp 206), none⟩, none)]
def o5_98 : List AOper := [⟨some 4, .mv (.const (.bool false)), none⟩]
def c5_96 : ACode := .cond (.tmp 207) (.seq (.ops o5_98) (.ret)) (.skip)
def o5_101 : List AOper := [⟨some 151, .mv (.tmp 16), none⟩,
  ⟨some 152, .bin .add (.tmp 151) (.const (.int .i64 1)), none⟩,
  ⟨some 16, .mv (.tmp 152), none⟩]
def c5_101 : ACode := .ops o5_101
def b5_83 : ACode := .post (.seq (.seq (.ops o5_86) (.cond (.tmp 150) (.skip) (.exit 6))) (.seq (.block 7 (.seq (.draw [] 0 o5_93 []) (.seq (.draw [] 0 o5_95 []) (.clear [0, 1, 3, 4, 5, 6, 7, 8, 9, 10, 13, 15, 17, 18, 19, 20, 21, 22, 23, 24, 25, 26, 27, 28, 29, 30, 31, 32, 33, 34, 35, 36, 37, 38, 39, 40, 41, 42, 43, 44, 45, 46, 47, 48, 49, 50, 51, 52, 53, 54, 55, 56, 57, 58, 59, 60, 61, 62, 63, 64, 65, 66, 67, 68, 69, 70, 71, 72, 73, 74, 75, 76, 77, 78, 79, 80, 81, 82, 83, 84, 85, 86, 87, 88, 89, 90, 91, 92, 93, 94, 95, 96, 97, 98, 99, 100, 101, 102, 103, 104, 105, 106, 107, 108, 109, 110, 111, 112, 113, 114, 115, 116, 117, 118, 119, 120, 121, 122, 123, 124, 125, 126, 127, 128, 129, 130, 131, 132, 133, 134, 135, 136, 137, 138, 139, 140, 141, 142, 143, 144, 145, 146, 147, 148, 149, 150, 151, 152, 153, 154, 155, 156, 157, 158, 159, 160, 161, 162, 163, 164, 165, 166, 167, 168, 169, 170, 171, 172, 173, 174, 175, 176, 177, 178, 179, 180, 181, 182, 183, 184, 185, 186, 187, 188, 189, 190, 191, 192, 193, 194, 195, 196, 197, 198, 199, 200, 201, 202, 203, 204, 205, 206, 208] c5_96)))) (.clear [0, 1, 3, 4, 5, 6, 7, 8, 9, 10, 13, 15, 17, 18, 19, 20, 21, 22, 23, 24, 25, 26, 27, 28, 29, 30, 31, 32, 33, 34, 35, 36, 37, 38, 39, 40, 41, 42, 43, 44, 45, 46, 47, 48, 49, 50, 51, 52, 53, 54, 55, 56, 57, 58, 59, 60, 61, 62, 63, 64, 65, 66, 67, 68, 69, 70, 71, 72, 73, 74, 75, 76, 77, 78, 79, 80, 81, 82, 83, 84, 85, 86, 87, 88, 89, 90, 91, 92, 93, 94, 95, 96, 97, 98, 99, 100, 101, 102, 103, 104, 105, 106, 107, 108, 109, 110, 111, 112, 113, 114, 115, 116, 117, 118, 119, 120, 121, 122, 123, 124, 125, 126, 127, 128, 129, 130, 131, 132, 133, 134, 135, 136, 137, 138, 139, 140, 141, 142, 143, 144, 145, 146, 147, 148, 149, 150, 151, 152, 153, 154, 155, 156, 157, 158, 159, 160, 161, 162, 163, 164, 165, 166, 167, 168, 169, 170, 171, 172, 173, 174, 175, 176, 177, 178, 179, 180, 181, 182, 183, 184, 185, 186, 187, 188, 189, 190, 191, 192, 193, 194, 195, 196, 197, 198, 199, 200, 201, 202, 203, 204, 205, 206, 207, 208] c5_101))) [0, 1, 3, 4, 5, 6, 7, 8, 9, 10, 13, 15, 17, 18, 19, 20, 21, 22, 23, 24, 25, 26, 27, 28, 29, 30, 31, 32, 33, 34, 35, 36, 37, 38, 39, 40, 41, 42, 43, 44, 45, 46, 47, 48, 49, 50, 51, 52, 53, 54, 55, 56, 57, 58, 59, 60, 61, 62, 63, 64, 65, 66, 67, 68, 69, 70, 71, 72, 73, 74, 75, 76, 77, 78, 79, 80, 81, 82, 83, 84, 85, 86, 87, 88, 89, 90, 91, 92, 93, 94, 95, 96, 97, 98, 99, 100, 101, 102, 103, 104, 105, 106, 107, 108, 109, 110, 111, 112, 113, 114, 115, 116, 117, 118, 119, 120, 121, 122, 123, 124, 125, 126, 127, 128, 129, 130, 131, 132, 133, 134, 135, 136, 137, 138, 139, 140, 141, 142, 143, 144, 145, 146, 147, 148, 149, 150, 151, 152, 153, 154, 155, 156, 157, 158, 159, 160, 161, 162, 163, 164, 165, 166, 167, 168, 169, 170, 171, 172, 173, 174, 175, 176, 177, 178, 179, 180, 181, 182, 183, 184, 185, 186, 187, 188, 189, 190, 191, 192, 193, 194, 195, 196, 197, 198, 199, 200, 201, 202, 203, 204, 205, 206, 207, 208]
def o5_103 : List AOper := [⟨some 208, .call true (.func 26) [] [(false, [.bool])] true, none⟩,
  ⟨some 4, .mv (.tmp 208), none⟩]
def c5_102 : ACode := .seq (.ops o5_103) (.ret)
def c5_71 : ACode := .seq (.seq (.ops o5_73) (.clear [0, 1, 3, 4, 5, 6, 7, 8, 9, 10, 13, 15, 16, 17, 18, 19, 20, 21, 22, 23, 24, 25, 26, 27, 28, 29, 30, 31, 32, 33, 34, 35, 36, 37, 38, 39, 40, 41, 42, 43, 44, 45, 46, 47, 48, 49, 50, 51, 52, 53, 54, 55, 56, 57, 58, 59, 60, 61, 62, 63, 64, 65, 66, 67, 68, 69, 70, 71, 72, 73, 74, 75, 76, 77, 78, 79, 80, 81, 82, 83, 84, 85, 86, 87, 88, 89, 90, 91, 92, 93, 94, 95, 96, 97, 98, 99, 100, 101, 102, 103, 104, 105, 106, 107, 108, 109, 110, 111, 112, 113, 114, 115, 116, 117, 118, 119, 120, 121, 122, 123, 124, 125, 126, 127, 128, 129, 130, 131, 132, 133, 134, 135, 136, 137, 138, 139, 140, 141, 142, 143, 144, 146, 147, 148, 149, 150, 151, 152, 153, 154, 155, 156, 157, 158, 159, 160, 161, 162, 163, 164, 165, 166, 167, 168, 169, 170, 171, 172, 173, 174, 175, 176, 177, 178, 179, 180, 181, 182, 183, 184, 185, 186, 187, 188, 189, 190, 191, 192, 193, 194, 195, 196, 197, 198, 199, 200, 201, 202, 203, 204, 205, 206, 207, 208] c5_74)) (.seq (.seq (.ops o5_81) (.block 6 (.clear [0, 1, 3, 4, 5, 6, 7, 8, 9, 10, 13, 15, 17, 18, 19, 20, 21, 22, 23, 24, 25, 26, 27, 28, 29, 30, 31, 32, 33, 34, 35, 36, 37, 38, 39, 40, 41, 42, 43, 44, 45, 46, 47, 48, 49, 50, 51, 52, 53, 54, 55, 56, 57, 58, 59, 60, 61, 62, 63, 64, 65, 66, 67, 68, 69, 70, 71, 72, 73, 74, 75, 76, 77, 78, 79, 80, 81, 82, 83, 84, 85, 86, 87, 88, 89, 90, 91, 92, 93, 94, 95, 96, 97, 98, 99, 100, 101, 102, 103, 104, 105, 106, 107, 108, 109, 110, 111, 112, 113, 114, 115, 116, 117, 118, 119, 120, 121, 122, 123, 124, 125, 126, 127, 128, 129, 130, 131, 132, 133, 134, 135, 136, 137, 138, 139, 140, 141, 142, 143, 144, 145, 146, 147, 148, 149, 150, 151, 152, 153, 154, 155, 156, 157, 158, 159, 160, 161, 162, 163, 164, 165, 166, 167, 168, 169, 170, 171, 172, 173, 174, 175, 176, 177, 178, 179, 180, 181, 182, 183, 184, 185, 186, 187, 188, 189, 190, 191, 192, 193, 194, 195, 196, 197, 198, 199, 200, 201, 202, 203, 204, 205, 206, 207, 208] (.loop b5_83)))) (.clear [0, 1, 2, 3, 4, 5, 6, 7, 8, 9, 10, 11, 12, 13, 14, 15, 16, 17, 18, 19, 20, 21, 22, 23, 24, 25, 26, 27, 28, 29, 30, 31, 32, 33, 34, 35, 36, 37, 38, 39, 40, 41, 42, 43, 44, 45, 46, 47, 48, 49, 50, 51, 52, 53, 54, 55, 56, 57, 58, 59, 60, 61, 62, 63, 64, 65, 66, 67, 68, 69, 70, 71, 72, 73, 74, 75, 76, 77, 78, 79, 80, 81, 82, 83, 84, 85, 86, 87, 88, 89, 90, 91, 92, 93, 94, 95, 96, 97, 98, 99, 100, 101, 102, 103, 104, 105, 106, 107, 108, 109, 110, 111, 112, 113, 114, 115, 116, 117, 118, 119, 120, 121, 122, 123, 124, 125, 126, 127, 128, 129, 130, 131, 132, 133, 134, 135, 136, 137, 138, 139, 140, 141, 142, 143, 144, 145, 146, 147, 148, 149, 150, 151, 152, 153, 154, 155, 156, 157, 158, 159, 160, 161, 162, 163, 164, 165, 166, 167, 168, 169, 170, 171, 172, 173, 174, 175, 176, 177, 178, 179, 180, 181, 182, 183, 184, 185, 186, 187, 188, 189, 190, 191, 192, 193, 194, 195, 196, 197, 198, 199, 200, 201, 202, 203, 204, 205, 206, 207, 208] c5_102))
def c5_65 : ACode := .seq (.ops o5_66) (.seq (.draw f5_68 0 o5_68 [(4, 1), (8, 1), (13, 1), (13, 9)]) (.seq (.draw f5_70 0 o5_70 [(4, 1), (9, 1), (9, 5)]) (.clear [0, 1, 3, 4, 5, 6, 7, 8, 9, 10, 16, 17, 18, 19, 20, 21, 22, 23, 24, 25, 26, 27, 28, 29, 30, 31, 32, 33, 34, 35, 36, 37, 38, 39, 40, 41, 42, 43, 44, 45, 46, 47, 48, 49, 50, 51, 52, 53, 54, 55, 56, 57, 58, 59, 60, 61, 62, 63, 64, 65, 66, 67, 68, 69, 70, 71, 72, 73, 74, 75, 76, 77, 78, 79, 80, 81, 82, 83, 84, 85, 86, 87, 88, 89, 90, 91, 92, 93, 94, 95, 96, 97, 98, 99, 100, 101, 102, 103, 104, 105, 106, 107, 108, 109, 110, 111, 112, 113, 114, 115, 116, 117, 118, 119, 120, 121, 122, 123, 124, 125, 126, 127, 128, 129, 130, 131, 132, 133, 134, 135, 136, 137, 138, 139, 140, 141, 142, 143, 144, 145, 146, 147, 148, 149, 150, 151, 152, 153, 154, 155, 156, 157, 158, 159, 160, 161, 162, 163, 164, 165, 166, 167, 168, 169, 170, 171, 172, 173, 174, 175, 176, 177, 178, 179, 180, 181, 182, 183, 184, 185, 186, 187, 188, 189, 190, 191, 192, 193, 194, 195, 196, 197, 198, 199, 200, 201, 202, 203, 204, 205, 206, 207, 208] c5_71)))
def c5_0 : ACode := .seq (.ops o5_1) (.seq (.seq (.ops o5_4) (.cond (.tmp 27) (.seq (.ops o5_7) (.ret)) (.skip))) (.seq (.ops o5_11) (.seq (.seq (.ops o5_14) (.block 0 (.clear [0, 3, 4, 7, 8, 9, 10, 11, 12, 13, 14, 15, 16, 17, 18, 19, 20, 21, 22, 23, 24, 25, 26, 27, 28, 29, 30, 31, 32, 33, 34, 35, 36, 37, 38, 39, 40, 41, 42, 43, 44, 45, 46, 47, 48, 49, 50, 51, 52, 53, 54, 55, 56, 57, 58, 59, 60, 61, 62, 63, 64, 65, 66, 67, 68, 69, 70, 71, 72, 73, 74, 75, 76, 77, 78, 79, 80, 81, 82, 83, 84, 85, 86, 87, 88, 89, 90, 91, 92, 93, 94, 95, 96, 97, 98, 99, 100, 101, 102, 103, 104, 105, 106, 107, 108, 109, 110, 111, 112, 113, 114, 115, 116, 117, 118, 119, 120, 121, 122, 123, 124, 125, 126, 127, 128, 129, 130, 131, 132, 133, 134, 135, 136, 137, 138, 139, 140, 141, 142, 143, 144, 145, 146, 147, 148, 149, 150, 151, 152, 153, 154, 155, 156, 157, 158, 159, 160, 161, 162, 163, 164, 165, 166, 167, 168, 169, 170, 171, 172, 173, 174, 175, 176, 177, 178, 179, 180, 181, 182, 183, 184, 185, 186, 187, 188, 189, 190, 191, 192, 193, 194, 195, 196, 197, 198, 199, 200, 201, 202, 203, 204, 205, 206, 207, 208] (.loop b5_16)))) (.clear [0, 3, 4, 5, 6, 7, 8, 9, 10, 11, 12, 13, 14, 15, 16, 17, 18, 19, 20, 21, 22, 23, 24, 25, 26, 27, 28, 29, 30, 31, 32, 33, 34, 35, 36, 37, 38, 39, 40, 41, 42, 43, 44, 45, 46, 47, 48, 49, 50, 51, 52, 53, 54, 55, 56, 57, 58, 59, 60, 61, 62, 63, 64, 65, 66, 67, 68, 69, 70, 71, 72, 73, 74, 75, 76, 77, 78, 79, 80, 81, 82, 83, 84, 85, 86, 87, 88, 89, 90, 91, 92, 93, 94, 95, 96, 97, 98, 99, 100, 101, 102, 103, 104, 105, 106, 107, 108, 109, 110, 111, 112, 113, 114, 115, 116, 117, 118, 119, 120, 121, 122, 123, 124, 125, 126, 127, 128, 129, 130, 131, 132, 133, 134, 135, 136, 137, 138, 139, 140, 141, 142, 143, 144, 145, 146, 147, 148, 149, 150, 151, 152, 153, 154, 155, 156, 157, 158, 159, 160, 161, 162, 163, 164, 165, 166, 167, 168, 169, 170, 171, 172, 173, 174, 175, 176, 177, 178, 179, 180, 181, 182, 183, 184, 185, 186, 187, 188, 189, 190, 191, 192, 193, 194, 195, 196, 197, 198, 199, 200, 201, 202, 203, 204, 205, 206, 207, 208] c5_65))))
def a5 : AFun := ⟨209, [.tmp 4], c5_0⟩
theorem ok5 : OkFun Try.prog 5 a5 := ⟨Try.f5, Try.f5.body.getD .skip, Try.func5, by kernel_rfl, by kernel_rfl, by kernel_rfl, by kernel_rfl, by kernel_rfl⟩
/-! #### skylightlaw51.MipBack -/
def o6_1 : List AOper := [⟨some 3, .box (.tmp 0), none⟩,
  ⟨some 6, .mv (.const (.bool false)), none⟩]
def o6_4 : List AOper := [⟨some 15, .load true [.int .i64, .int .i64, .slice] (.tmp 3), none⟩,
  ⟨some 16, .call false (.func 25) [.tmp 15] [(false, [.bool])] true, none⟩,
  ⟨some 17, .un .not (.tmp 16), none⟩,
  ⟨some 18, .mv (.tmp 17), none⟩,
  ⟨some 19, .fieldAddr 2 (.tmp 3), some (18, false)⟩,
  ⟨some 20, .load false [.slice] (.tmp 19), some (18, false)⟩,
  ⟨some 21, .len (.tmp 20), some (18, false)⟩,
  ⟨some 22, .bin .gtr (.tmp 21) (.const (.int .i64 40)), some (18, false)⟩,
  ⟨some 23, .pick (.tmp 18) (.const (.bool true)) (.tmp 22), none⟩]
def o6_7 : List AOper := [⟨some 24, .call true (.func 26) [] [(false, [.bool])] true, none⟩,
  ⟨some 6, .mv (.tmp 24), none⟩]
def o6_11 : List (AOper × Option Nat) := [(⟨some 25, .fieldAddr 0 (.tmp 3), none⟩, none),
  (⟨some 26, .load false [.int .i64] (.tmp 25), none⟩, none),
  (⟨some 27, .bin .mul (.const (.int .i64 2)) (.tmp 26), none⟩, none),
  (⟨some 28, .fieldAddr 1 (.tmp 3), none⟩, none),
  (⟨some 29, .load false [.int .i64] (.tmp 28), none⟩, none),
  (⟨some 30, .bin .mul (.const (.int .i64 2)) (.tmp 29), none⟩, none),
  (⟨some 7, .mv (.tmp 27), none⟩, none),
  (⟨some 8, .mv (.tmp 30), none⟩, none)]
def o6_14 : List AOper := [⟨some 31, .mv (.tmp 1), none⟩]
def o6_16 : List AOper := [⟨some 32, .mv (.tmp 7), none⟩,
  ⟨some 33, .bin .sub (.tmp 32) (.const (.int .i64 1)), none⟩,
  ⟨some 7, .mv (.tmp 33), none⟩]
def o6_20 : List AOper := [⟨some 34, .mv (.tmp 2), none⟩]
def o6_22 : List AOper := [⟨some 35, .mv (.tmp 8), none⟩,
  ⟨some 36, .bin .sub (.tmp 35) (.const (.int .i64 1)), none⟩,
  ⟨some 8, .mv (.tmp 36), none⟩]
def o6_25 : List AOper := [⟨some 38, .load true [.int .i64, .int .i64, .slice] (.tmp 3), none⟩,
  ⟨some 39, .call false (.func 28) [.tmp 38] [(true, [.int .i64, .int .i64, .slice])] true, none⟩,
  ⟨some 40, .mv (.tmp 7), none⟩,
  ⟨some 41, .mv (.tmp 8), none⟩,
  ⟨some 42, .call false (.func 30) [.tmp 39, .tmp 40, .tmp 41] [(true, [.int .i64, .int .i64, .slice]), (false, [.bool])] false, none⟩,
  ⟨some 37, .mv (.tmp 42), none⟩,
  ⟨some 43, .extract (.tmp 37) 0, none⟩,
  ⟨some 44, .extract (.tmp 37) 1, none⟩,
  ⟨some 9, .alloc [.int .i64 0, .int .i64 0, .slice none 0 0], none⟩,
  ⟨none, .store 3 (.tmp 9) (.tmp 43), none⟩,
  ⟨some 10, .mv (.tmp 44), none⟩]
def o6_27 : List AOper := [⟨some 46, .load true [.int .i64, .int .i64, .slice] (.tmp 3), none⟩,
  ⟨some 47, .call false (.func 28) [.tmp 46] [(true, [.int .i64, .int .i64, .slice])] true, none⟩,
  ⟨some 48, .mv (.tmp 7), none⟩,
  ⟨some 49, .bin .add (.tmp 48) (.const (.int .i64 2)), none⟩,
  ⟨some 50, .mv (.tmp 8), none⟩,
  ⟨some 51, .call false (.func 30) [.tmp 47, .tmp 49, .tmp 50] [(true, [.int .i64, .int .i64, .slice]), (false, [.bool])] false, none⟩,
  ⟨some 45, .mv (.tmp 51), none⟩,
  ⟨some 52, .extract (.tmp 45) 0, none⟩,
  ⟨some 53, .extract (.tmp 45) 1, none⟩,
  ⟨some 11, .alloc [.int .i64 0, .int .i64 0, .slice none 0 0], none⟩,
  ⟨none, .store 3 (.tmp 11) (.tmp 52), none⟩,
  ⟨some 12, .mv (.tmp 53), none⟩]
def o6_30 : List (AOper × Option Nat) := [(⟨some 54, .mv (.tmp 10), none⟩, none),
  (⟨some 55, .un .not (.tmp 54), none⟩, none),
  (⟨some 56, .mv (.tmp 55), none⟩, none),
  (⟨some 57, .mv (.tmp 12), some (56, false)⟩, none),
  (⟨some 58, .pick (.tmp 56) (.const (.bool true)) (.tmp 57), none⟩, none),
  (⟨some 59, .mv (.tmp 58), none⟩, none),
  (⟨some 60, .fieldAddr 0 (.tmp 9), some (59, false)⟩, none),
  (⟨some 61, .load false [.int .i64] (.tmp 60), some (59, false)⟩, none),
  (⟨some 62, .mv (.tmp 7), some (59, false)⟩, none),
  (⟨some 63, .bin .neq (.tmp 61) (.tmp 62), some (59, false)⟩, none),
  (⟨some 64, .pick (.tmp 59) (.const (.bool true)) (.tmp 63), none⟩, none),
  (⟨some 65, .mv (.tmp 64), none⟩, none),
  (⟨some 66, .fieldAddr 1 (.tmp 9), some (65, false)⟩, none),
  (⟨some 67, .load false [.int .i64] (.tmp 66), some (65, false)⟩, none),
  (⟨some 68, .mv (.tmp 8), some (65, false)⟩, none),
  (⟨some 69, .bin .neq (.tmp 67) (.tmp 68), some (65, false)⟩, none),
  (⟨some 70, .pick (.tmp 65) (.const (.bool true)) (.tmp 69), none⟩, none),
  (⟨some 71, .mv (.tmp 70), none⟩, none),
  (⟨some 72, .load true [.int .i64, .int .i64, .slice] (.tmp 9), some (71, false)⟩, none),
  (⟨some 73, .call false (.func 27) [.tmp 72] [(true, [.int .i64, .int .i64, .slice])] true, some (71, false)⟩, none),
  (⟨some 74, .call false (.func 32) [.tmp 73] [(true, [.int .i64, .int .i64, .slice])] true, some (71, false)⟩, none),
  (⟨some 75, .load true [.int .i64, .int .i64, .slice] (.tmp 3), some (71, false)⟩, none),
  (⟨some 76, .call false (.func 31) [.tmp 74, .tmp 75] [(false, [.bool])] true, some (71, false)⟩, none),
  (⟨some 77, .un .not (.tmp 76), some (71, false)⟩, none),
  (⟨some 78, .pick (.tmp 71) (.const (.bool true)) (.tmp 77), none⟩, none)]
def o6_33 : List AOper := [⟨some 6, .mv (.const (.bool false)), none⟩]
def c6_31 : ACode := .cond (.tmp 78) (.seq (.ops o6_33) (.ret)) (.skip)
def o6_37 : List AOper := [⟨some 79, .load true [.int .i64, .int .i64, .slice] (.tmp 3), none⟩,
  ⟨some 80, .call false (.func 28) [.tmp 79] [(true, [.int .i64, .int .i64, .slice])] true, none⟩,
  ⟨some 81, .call false (.func 33) [.tmp 80] [(false, [.slice])] true, none⟩,
  ⟨some 13, .mv (.tmp 81), none⟩]
def o6_40 : List (AOper × Option Nat) := [(⟨some 82, .mv (.tmp 13), none⟩, none),
  (⟨some 83, .len (.tmp 82), none⟩, none),
  (⟨some 84, .bin .eql (.tmp 83) (.const (.int .i64 0)), none⟩, none),
  (⟨some 85, .mv (.tmp 84), none⟩, none),
  (⟨some 86, .mv (.tmp 13), some (85, false)⟩, none),
  (⟨some 87, .len (.tmp 86), some (85, false)⟩, none),
  (⟨some 88, .fieldAddr 0 (.tmp 3), some (85, false)⟩, none),
  (⟨some 89, .load false [.int .i64] (.tmp 88), some (85, false)⟩, none),
  (⟨some 90, .fieldAddr 1 (.tmp 3), some (85, false)⟩, none),
  (⟨some 91, .load false [.int .i64] (.tmp 90), some (85, false)⟩, none),
  (⟨some 92, .call true (.func 34) [.tmp 89, .tmp 91] [(false, [.int .i64])] true, some (85, false)⟩, none),
  (⟨some 93, .bin .neq (.tmp 87) (.tmp 92), some (85, false)⟩, none),
  (⟨some 94, .pick (.tmp 85) (.const (.bool true)) (.tmp 93), none⟩, none),
  (⟨some 95, .mv (.tmp 94), none⟩, none),
  (⟨some 96, .mv (.tmp 13), some (95, false)⟩, none),
  (⟨some 97, .indexAddr 3 (.tmp 96) (.const (.int .i64 0)), some (95, false)⟩, none),
  (⟨some 98, .load true [.int .i64, .int .i64, .slice] (.tmp 97), some (95, false)⟩, none),
  (⟨some 99, .call false (.func 32) [.tmp 98] [(true, [.int .i64, .int .i64, .slice])] true, some (95, false)⟩, none),
  (⟨some 100, .load true [.int .i64, .int .i64, .slice] (.tmp 3), some (95, false)⟩, none),
  (⟨some 101, .call false (.func 31) [.tmp 99, .tmp 100] [(false, [.bool])] true, some (95, false)⟩, none),
  (⟨some 102, .un .not (.tmp 101), some (95, false)⟩, none),
  (⟨some 103, .pick (.tmp 95) (.const (.bool true)) (.tmp 102), none⟩, none)]
def o6_43 : List AOper := [⟨some 6, .mv (.const (.bool false)), none⟩]
def o6_48 : List AOper := [⟨some 14, .mv (.const (.int .i64 1)), none⟩]
def o6_53 : List AOper := [⟨some 104, .mv (.tmp 14), none⟩,
  ⟨some 105, .mv (.tmp 13), none⟩,
  ⟨some 106, .len (.tmp 105), none⟩,
  ⟨some 107, .bin .lss (.tmp 104) (.tmp 106), none⟩]
def o6_60 : List (AOper × Option Nat) := [(⟨some 110, .mv (.tmp 13), none⟩, none),
  (⟨some 111, .mv (.tmp 14), none⟩, none),
  (⟨some 112, .indexAddr 3 (.tmp 110) (.tmp 111), none⟩, none),
  (⟨some 113, .fieldAddr 0 (.tmp 112), none⟩, none),
  (⟨some 114, .load false [.int .i64] (.tmp 113), none⟩, none),
  (⟨some 115, .mv (.tmp 13), none⟩, none),
  (⟨some 116, .mv (.tmp 14), none⟩, none),
  (⟨some 117, .bin .sub (.tmp 116) (.const (.int .i64 1)), none⟩, none),
  (⟨some 118, .indexAddr 3 (.tmp 115) (.tmp 117), none⟩, none),
  (⟨some 119, .fieldAddr 0 (.tmp 118), none⟩, none),
  (⟨some 120, .load false [.int .i64] (.tmp 119), none⟩, none),
  (⟨some 121, .bin .add (.tmp 120) (.const (.int .i64 1)), none⟩, none),
  (⟨some 122, .bin .quo (.tmp 121) (.const (.int .i64 2)), none⟩, none),
  (⟨some 123, .bin .neq (.tmp 114) (.tmp 122), none⟩, none),
  (⟨some 124, .mv (.tmp 123), none⟩, none),
  (⟨some 125, .mv (.tmp 13), some (124, false)⟩, none),
  (⟨some 126, .mv (.tmp 14), some (124, false)⟩, none),
  (⟨some 127, .indexAddr 3 (.tmp 125) (.tmp 126), some (124, false)⟩, none),
  (⟨some 128, .fieldAddr 1 (.tmp 127), some (124, false)⟩, none),
  (⟨some 129, .load false [.int .i64] (.tmp 128), some (124, false)⟩, none),
  (⟨some 130, .mv (.tmp 13), some (124, false)⟩, none),
  (⟨some 131, .mv (.tmp 14), some (124, false)⟩, none),
  (⟨some 132, .bin .sub (.tmp 131) (.const (.int .i64 1)), some (124, false)⟩, none),
  (⟨some 133, .indexAddr 3 (.tmp 130) (.tmp 132), some (124, false)⟩, none),
  (⟨some 134, .fieldAddr 1 (.tmp 133), some (124, false)⟩, none),
  (⟨some 135, .load false [.int .i64] (.tmp 134), some (124, false)⟩, none),
  (⟨some 136, .bin .add (.tmp 135) (.const (.int .i64 1)), some (124, false)⟩, none),
  (⟨some 137, .bin .quo (.tmp 136) (.const (.int .i64 2)), some (124, false)⟩, none),
  (⟨some 138, .bin .neq (.tmp 129) (.tmp 137), some (124, false)⟩, none),
  (⟨some 139, .pick (.tmp 124) (.const (.bool true)) (.tmp 138), none⟩, none),
  (⟨some 140, .mv (.tmp 139), none⟩, none),
  (⟨some 141, .mv (.tmp 13), some (140, false)⟩, none),
  (⟨some 142, .mv (.tmp 14), some (140, false)⟩, none),
  (⟨some 143, .indexAddr 3 (.tmp 141) (.tmp 142), some (140, false)⟩, none),
  (⟨some 144, .load true [.int .i64, .int .i64, .slice] (.tmp 143), some (140, false)⟩, none),
  (⟨some 145, .call false (.func 32) [.tmp 144] [(true, [.int .i64, .int .i64, .slice])] true, some (140, false)⟩, none),
  (⟨some 146, .call false (.func 25) [.tmp 145] [(false, [.bool])] true, some (140, false)⟩, none),
  (⟨some 147, .un .not (.tmp 146), some (140, false)⟩, none),
  (⟨some 148, .pick (.tmp 140) (.const (.bool true)) (.tmp 147), none⟩, none)]
def o6_63 : List AOper := [⟨some 6, .mv (.const (.bool false)), none⟩]
def c6_61 : ACode := .cond (.tmp 148) (.seq (.ops o6_63) (.ret)) (.skip)
def o6_66 : List AOper := [⟨some 108, .mv (.tmp 14), none⟩,
  ⟨some 109, .bin .add (.tmp 108) (.const (.int .i64 1)), none⟩,
  ⟨some 14, .mv (.tmp 109), none⟩]
def c6_66 : ACode := .ops o6_66
def b6_50 : ACode := .post (.seq (.seq (.ops o6_53) (.cond (.tmp 107) (.skip) (.exit 0))) (.seq (.block 1 (.seq (.draw [] 0 o6_60 []) (.clear [0, 1, 2, 3, 4, 5, 6, 7, 8, 9, 10, 11, 12, 15, 16, 17, 18, 19, 20, 21, 22, 23, 24, 25, 26, 27, 28, 29, 30, 31, 32, 33, 34, 35, 36, 37, 38, 39, 40, 41, 42, 43, 44, 45, 46, 47, 48, 49, 50, 51, 52, 53, 54, 55, 56, 57, 58, 59, 60, 61, 62, 63, 64, 65, 66, 67, 68, 69, 70, 71, 72, 73, 74, 75, 76, 77, 78, 79, 80, 81, 82, 83, 84, 85, 86, 87, 88, 89, 90, 91, 92, 93, 94, 95, 96, 97, 98, 99, 100, 101, 102, 103, 104, 105, 106, 107, 108, 109, 110, 111, 112, 113, 114, 115, 116, 117, 118, 119, 120, 121, 122, 123, 124, 125, 126, 127, 128, 129, 130, 131, 132, 133, 134, 135, 136, 137, 138, 139, 140, 141, 142, 143, 144, 145, 146, 147, 149, 150, 151, 152, 153, 154, 155, 156, 157, 158, 159, 160, 161, 162, 163, 164, 165, 166, 167] c6_61))) (.clear [0, 1, 2, 3, 4, 5, 6, 7, 8, 9, 10, 11, 12, 15, 16, 17, 18, 19, 20, 21, 22, 23, 24, 25, 26, 27, 28, 29, 30, 31, 32, 33, 34, 35, 36, 37, 38, 39, 40, 41, 42, 43, 44, 45, 46, 47, 48, 49, 50, 51, 52, 53, 54, 55, 56, 57, 58, 59, 60, 61, 62, 63, 64, 65, 66, 67, 68, 69, 70, 71, 72, 73, 74, 75, 76, 77, 78, 79, 80, 81, 82, 83, 84, 85, 86, 87, 88, 89, 90, 91, 92, 93, 94, 95, 96, 97, 98, 99, 100, 101, 102, 103, 104, 105, 106, 107, 108, 109, 110, 111, 112, 113, 114, 115, 116, 117, 118, 119, 120, 121, 122, 123, 124, 125, 126, 127, 128, 129, 130, 131, 132, 133, 134, 135, 136, 137, 138, 139, 140, 141, 142, 143, 144, 145, 146, 147, 148, 149, 150, 151, 152, 153, 154, 155, 156, 157, 158, 159, 160, 161, 162, 163, 164, 165, 166, 167] c6_66))) [0, 1, 2, 3, 4, 5, 6, 7, 8, 9, 10, 11, 12, 15, 16, 17, 18, 19, 20, 21, 22, 23, 24, 25, 26, 27, 28, 29, 30, 31, 32, 33, 34, 35, 36, 37, 38, 39, 40, 41, 42, 43, 44, 45, 46, 47, 48, 49, 50, 51, 52, 53, 54, 55, 56, 57, 58, 59, 60, 61, 62, 63, 64, 65, 66, 67, 68, 69, 70, 71, 72, 73, 74, 75, 76, 77, 78, 79, 80, 81, 82, 83, 84, 85, 86, 87, 88, 89, 90, 91, 92, 93, 94, 95, 96, 97, 98, 99, 100, 101, 102, 103, 104, 105, 106, 107, 108, 109, 110, 111, 112, 113, 114, 115, 116, 117, 118, 119, 120, 121, 122, 123, 124, 125, 126, 127, 128, 129, 130, 131, 132, 133, 134, 135, 136, 137, 138, 139, 140, 141, 142, 143, 144, 145, 146, 147, 148, 149, 150, 151, 152, 153, 154, 155, 156, 157, 158, 159, 160, 161, 162, 163, 164, 165, 166, 167]
def o6_68 : List (AOper × Option Nat) := [(⟨some 149, .mv (.tmp 13), none⟩, none),
  (⟨some 150, .mv (.tmp 13), none⟩, none),
  (⟨some 151, .len (.tmp 150), none⟩, none),
  (⟨some 152, .bin .sub (.tmp 151) (.const (.int .i64 1)), none⟩, none),
  (⟨some 153, .indexAddr 3 (.tmp 149) (.tmp 152), none⟩, none),
  (⟨some 154, .fieldAddr 0 (.tmp 153), none⟩, none),
  (⟨some 155, .load false [.int .i64] (.tmp 154), none⟩, none),
  (⟨some 156, .mv (.tmp 13), none⟩, none),
  (⟨some 157, .mv (.tmp 13), none⟩, none),
  (⟨some 158, .len (.tmp 157), none⟩, none),
  (⟨some 159, .bin .sub (.tmp 158) (.const (.int .i64 1)), none⟩, none),
  (⟨some 160, .indexAddr 3 (.tmp 156) (.tmp 159), none⟩, none),
  (⟨some 161, .fieldAddr 1 (.tmp 160), none⟩, none),
  (⟨some 162, .load false [.int .i64] (.tmp 161), none⟩, none),
  (⟨some 163, .bin .mul (.tmp 155) (.tmp 162), none⟩, none),
  (⟨some 164, .bin .eql (.tmp 163) (.const (.int .i64 1)), none⟩, none),
  (⟨some 165, .mv (.tmp 164), none⟩, none),
  (⟨some 166, .call true (.func 26) [] [(false, [.bool])] true, some (165, true)⟩, none),
  (⟨some 167, .pick (.tmp 165) (.tmp 166) (.const (.bool false)), none⟩, none),
  (⟨some 6, .mv (.tmp 167), none⟩, none)]
def c6_67 : ACode := .seq (.draw [] 0 o6_68 []) (.ret)
def c6_24 : ACode := .seq (.ops o6_25) (.seq (.ops o6_27) (.seq (.seq (.draw [] 0 o6_30 [(21, 19), (21, 20)]) (.clear [0, 1, 2, 4, 5, 6, 7, 8, 9, 10, 11, 12, 13, 14, 15, 16, 17, 18, 19, 20, 21, 22, 23, 24, 25, 26, 27, 28, 29, 30, 31, 32, 33, 34, 35, 36, 37, 38, 39, 40, 41, 42, 43, 44, 45, 46, 47, 48, 49, 50, 51, 52, 53, 54, 55, 56, 57, 58, 59, 60, 61, 62, 63, 64, 65, 66, 67, 68, 69, 70, 71, 72, 73, 74, 75, 76, 77, 79, 80, 81, 82, 83, 84, 85, 86, 87, 88, 89, 90, 91, 92, 93, 94, 95, 96, 97, 98, 99, 100, 101, 102, 103, 104, 105, 106, 107, 108, 109, 110, 111, 112, 113, 114, 115, 116, 117, 118, 119, 120, 121, 122, 123, 124, 125, 126, 127, 128, 129, 130, 131, 132, 133, 134, 135, 136, 137, 138, 139, 140, 141, 142, 143, 144, 145, 146, 147, 148, 149, 150, 151, 152, 153, 154, 155, 156, 157, 158, 159, 160, 161, 162, 163, 164, 165, 166, 167] c6_31)) (.seq (.ops o6_37) (.seq (.seq (.draw [] 0 o6_40 [(18, 17)]) (.cond (.tmp 103) (.seq (.ops o6_43) (.ret)) (.skip))) (.seq (.seq (.ops o6_48) (.block 0 (.clear [0, 1, 2, 3, 4, 5, 6, 7, 8, 9, 10, 11, 12, 15, 16, 17, 18, 19, 20, 21, 22, 23, 24, 25, 26, 27, 28, 29, 30, 31, 32, 33, 34, 35, 36, 37, 38, 39, 40, 41, 42, 43, 44, 45, 46, 47, 48, 49, 50, 51, 52, 53, 54, 55, 56, 57, 58, 59, 60, 61, 62, 63, 64, 65, 66, 67, 68, 69, 70, 71, 72, 73, 74, 75, 76, 77, 78, 79, 80, 81, 82, 83, 84, 85, 86, 87, 88, 89, 90, 91, 92, 93, 94, 95, 96, 97, 98, 99, 100, 101, 102, 103, 104, 105, 106, 107, 108, 109, 110, 111, 112, 113, 114, 115, 116, 117, 118, 119, 120, 121, 122, 123, 124, 125, 126, 127, 128, 129, 130, 131, 132, 133, 134, 135, 136, 137, 138, 139, 140, 141, 142, 143, 144, 145, 146, 147, 148, 149, 150, 151, 152, 153, 154, 155, 156, 157, 158, 159, 160, 161, 162, 163, 164, 165, 166, 167] (.loop b6_50)))) (.clear [0, 1, 2, 3, 4, 5, 6, 7, 8, 9, 10, 11, 12, 14, 15, 16, 17, 18, 19, 20, 21, 22, 23, 24, 25, 26, 27, 28, 29, 30, 31, 32, 33, 34, 35, 36, 37, 38, 39, 40, 41, 42, 43, 44, 45, 46, 47, 48, 49, 50, 51, 52, 53, 54, 55, 56, 57, 58, 59, 60, 61, 62, 63, 64, 65, 66, 67, 68, 69, 70, 71, 72, 73, 74, 75, 76, 77, 78, 79, 80, 81, 82, 83, 84, 85, 86, 87, 88, 89, 90, 91, 92, 93, 94, 95, 96, 97, 98, 99, 100, 101, 102, 103, 104, 105, 106, 107, 108, 109, 110, 111, 112, 113, 114, 115, 116, 117, 118, 119, 120, 121, 122, 123, 124, 125, 126, 127, 128, 129, 130, 131, 132, 133, 134, 135, 136, 137, 138, 139, 140, 141, 142, 143, 144, 145, 146, 147, 148, 149, 150, 151, 152, 153, 154, 155, 156, 157, 158, 159, 160, 161, 162, 163, 164, 165, 166, 167] c6_67))))))
def c6_18 : ACode := .seq (.seq (.ops o6_20) (.cond (.tmp 34) (.ops o6_22) (.skip))) (.clear [0, 1, 2, 4, 5, 6, 9, 10, 11, 12, 13, 14, 15, 16, 17, 18, 19, 20, 21, 22, 23, 24, 25, 26, 27, 28, 29, 30, 31, 32, 33, 34, 35, 36, 37, 38, 39, 40, 41, 42, 43, 44, 45, 46, 47, 48, 49, 50, 51, 52, 53, 54, 55, 56, 57, 58, 59, 60, 61, 62, 63, 64, 65, 66, 67, 68, 69, 70, 71, 72, 73, 74, 75, 76, 77, 78, 79, 80, 81, 82, 83, 84, 85, 86, 87, 88, 89, 90, 91, 92, 93, 94, 95, 96, 97, 98, 99, 100, 101, 102, 103, 104, 105, 106, 107, 108, 109, 110, 111, 112, 113, 114, 115, 116, 117, 118, 119, 120, 121, 122, 123, 124, 125, 126, 127, 128, 129, 130, 131, 132, 133, 134, 135, 136, 137, 138, 139, 140, 141, 142, 143, 144, 145, 146, 147, 148, 149, 150, 151, 152, 153, 154, 155, 156, 157, 158, 159, 160, 161, 162, 163, 164, 165, 166, 167] c6_24)
def c6_0 : ACode := .seq (.ops o6_1) (.seq (.seq (.ops o6_4) (.cond (.tmp 23) (.seq (.ops o6_7) (.ret)) (.skip))) (.seq (.draw [] 0 o6_11 []) (.seq (.seq (.ops o6_14) (.cond (.tmp 31) (.ops o6_16) (.skip))) (.clear [0, 1, 4, 5, 6, 9, 10, 11, 12, 13, 14, 15, 16, 17, 18, 19, 20, 21, 22, 23, 24, 25, 26, 27, 28, 29, 30, 31, 32, 33, 34, 35, 36, 37, 38, 39, 40, 41, 42, 43, 44, 45, 46, 47, 48, 49, 50, 51, 52, 53, 54, 55, 56, 57, 58, 59, 60, 61, 62, 63, 64, 65, 66, 67, 68, 69, 70, 71, 72, 73, 74, 75, 76, 77, 78, 79, 80, 81, 82, 83, 84, 85, 86, 87, 88, 89, 90, 91, 92, 93, 94, 95, 96, 97, 98, 99, 100, 101, 102, 103, 104, 105, 106, 107, 108, 109, 110, 111, 112, 113, 114, 115, 116, 117, 118, 119, 120, 121, 122, 123, 124, 125, 126, 127, 128, 129, 130, 131, 132, 133, 134, 135, 136, 137, 138, 139, 140, 141, 142, 143, 144, 145, 146, 147, 148, 149, 150, 151, 152, 153, 154, 155, 156, 157, 158, 159, 160, 161, 162, 163, 164, 165, 166, 167] c6_18))))
def a6 : AFun := ⟨168, [.tmp 6], c6_0⟩
theorem ok6 : OkFun Try.prog 6 a6 := ⟨Try.f6, Try.f6.body.getD .skip, Try.func6, by kernel_rfl, by kernel_rfl, by kernel_rfl, by kernel_rfl, by kernel_rfl⟩
/-! #### skylightlaw51.MipTells -/
def o7_1 : List AOper := [⟨some 5, .box (.tmp 0), none⟩,
  ⟨some 10, .mv (.const (.bool false)), none⟩]
def o7_4 : List AOper := [⟨some 22, .fieldAddr 2 (.tmp 5), none⟩,
  ⟨some 23, .load false [.slice] (.tmp 22), none⟩,
  ⟨some 24, .len (.tmp 23), none⟩,
  ⟨some 25, .bin .gtr (.tmp 24) (.const (.int .i64 40)), none⟩]
def o7_7 : List AOper := [⟨some 26, .call true (.func 26) [] [(false, [.bool])] true, none⟩,
  ⟨some 10, .mv (.tmp 26), none⟩]
def o7_11 : List (AOper × Option Nat) := [(⟨some 27, .load true [.int .i64, .int .i64, .slice] (.tmp 5), none⟩, none),
  (⟨some 28, .call false (.func 28) [.tmp 27] [(true, [.int .i64, .int .i64, .slice])] true, none⟩, none),
  (⟨some 29, .call false (.func 33) [.tmp 28] [(false, [.slice])] true, none⟩, none),
  (⟨some 30, .load true [.int .i64, .int .i64, .slice] (.tmp 5), none⟩, none),
  (⟨some 31, .call false (.func 35) [.tmp 30] [(false, [.slice])] true, none⟩, none),
  (⟨some 11, .mv (.tmp 29), none⟩, none),
  (⟨some 12, .mv (.tmp 31), none⟩, none)]
def o7_14 : List AOper := [⟨some 32, .mv (.tmp 11), none⟩,
  ⟨some 33, .len (.tmp 32), none⟩,
  ⟨some 34, .mv (.tmp 12), none⟩,
  ⟨some 35, .len (.tmp 34), none⟩,
  ⟨some 36, .bin .neq (.tmp 33) (.tmp 35), none⟩]
def o7_17 : List AOper := [⟨some 10, .mv (.const (.bool false)), none⟩]
def o7_22 : List AOper := [⟨some 13, .mv (.const (.int .i64 0)), none⟩]
def o7_27 : List AOper := [⟨some 37, .mv (.tmp 13), none⟩,
  ⟨some 38, .mv (.tmp 11), none⟩,
  ⟨some 39, .len (.tmp 38), none⟩,
  ⟨some 40, .bin .lss (.tmp 37) (.tmp 39), none⟩]
def o7_34 : List (AOper × Option Nat) := [(⟨some 43, .mv (.tmp 11), none⟩, none),
  (⟨some 44, .mv (.tmp 13), none⟩, none),
  (⟨some 45, .indexAddr 3 (.tmp 43) (.tmp 44), none⟩, none),
  (⟨some 46, .load true [.int .i64, .int .i64, .slice] (.tmp 45), none⟩, none),
  (⟨some 47, .call false (.func 32) [.tmp 46] [(true, [.int .i64, .int .i64, .slice])] true, none⟩, none),
  (⟨some 48, .mv (.tmp 12), none⟩, none),
  (⟨some 49, .mv (.tmp 13), none⟩, none),
  (⟨some 50, .indexAddr 3 (.tmp 48) (.tmp 49), none⟩, none),
  (⟨some 51, .load true [.int .i64, .int .i64, .slice] (.tmp 50), none⟩, none),
  (⟨some 52, .call false (.func 31) [.tmp 47, .tmp 51] [(false, [.bool])] true, none⟩, none),
  (⟨some 53, .un .not (.tmp 52), none⟩, none)]
def o7_37 : List AOper := [⟨some 10, .mv (.const (.bool false)), none⟩]
def o7_40 : List AOper := [⟨some 41, .mv (.tmp 13), none⟩,
  ⟨some 42, .bin .add (.tmp 41) (.const (.int .i64 1)), none⟩,
  ⟨some 13, .mv (.tmp 42), none⟩]
def c7_40 : ACode := .ops o7_40
def b7_24 : ACode := .post (.seq (.seq (.ops o7_27) (.cond (.tmp 40) (.skip) (.exit 0))) (.seq (.block 1 (.seq (.draw [] 0 o7_34 [(8, 4)]) (.cond (.tmp 53) (.seq (.ops o7_37) (.ret)) (.skip)))) (.clear [0, 6, 7, 8, 9, 10, 14, 15, 16, 17, 18, 19, 20, 21, 22, 23, 24, 25, 26, 27, 28, 29, 30, 31, 32, 33, 34, 35, 36, 37, 38, 39, 40, 41, 42, 43, 44, 45, 46, 47, 48, 49, 50, 51, 52, 53, 54, 55, 56, 57, 58, 59, 60, 61, 62, 63, 64, 65, 66, 67, 68, 69, 70, 71, 72, 73, 74, 75, 76, 77, 78, 79, 80, 81, 82, 83, 84, 85, 86, 87, 88, 89, 90, 91, 92, 93, 94, 95, 96, 97, 98, 99, 100, 101, 102, 103, 104, 105, 106, 107, 108, 109, 110, 111, 112, 113, 114, 115, 116, 117, 118, 119, 120, 121, 122, 123, 124, 125, 126, 127, 128] c7_40))) [0, 6, 7, 8, 9, 10, 14, 15, 16, 17, 18, 19, 20, 21, 22, 23, 24, 25, 26, 27, 28, 29, 30, 31, 32, 33, 34, 35, 36, 37, 38, 39, 40, 41, 42, 43, 44, 45, 46, 47, 48, 49, 50, 51, 52, 53, 54, 55, 56, 57, 58, 59, 60, 61, 62, 63, 64, 65, 66, 67, 68, 69, 70, 71, 72, 73, 74, 75, 76, 77, 78, 79, 80, 81, 82, 83, 84, 85, 86, 87, 88, 89, 90, 91, 92, 93, 94, 95, 96, 97, 98, 99, 100, 101, 102, 103, 104, 105, 106, 107, 108, 109, 110, 111, 112, 113, 114, 115, 116, 117, 118, 119, 120, 121, 122, 123, 124, 125, 126, 127, 128]
def o7_42 : List AOper := [⟨some 55, .load true [.int .i64, .int .i64, .slice] (.tmp 5), none⟩,
  ⟨some 56, .call false (.func 28) [.tmp 55] [(true, [.int .i64, .int .i64, .slice])] true, none⟩,
  ⟨some 57, .mv (.tmp 3), none⟩,
  ⟨some 58, .mv (.tmp 4), none⟩,
  ⟨some 59, .call false (.func 30) [.tmp 56, .tmp 57, .tmp 58] [(true, [.int .i64, .int .i64, .slice]), (false, [.bool])] false, none⟩,
  ⟨some 54, .mv (.tmp 59), none⟩,
  ⟨some 60, .extract (.tmp 54) 0, none⟩,
  ⟨some 61, .extract (.tmp 54) 1, none⟩,
  ⟨some 14, .alloc [.int .i64 0, .int .i64 0, .slice none 0 0], none⟩,
  ⟨none, .store 3 (.tmp 14) (.tmp 60), none⟩,
  ⟨some 15, .mv (.tmp 61), none⟩]
def o7_44 : List AOper := [⟨some 63, .load true [.int .i64, .int .i64, .slice] (.tmp 5), none⟩,
  ⟨some 64, .mv (.tmp 3), none⟩,
  ⟨some 65, .mv (.tmp 4), none⟩,
  ⟨some 66, .call false (.func 36) [.tmp 63, .tmp 64, .tmp 65] [(true, [.int .i64, .int .i64, .slice]), (false, [.bool])] false, none⟩,
  ⟨some 62, .mv (.tmp 66), none⟩,
  ⟨some 67, .extract (.tmp 62) 0, none⟩,
  ⟨some 68, .extract (.tmp 62) 1, none⟩,
  ⟨some 16, .alloc [.int .i64 0, .int .i64 0, .slice none 0 0], none⟩,
  ⟨none, .store 3 (.tmp 16) (.tmp 67), none⟩,
  ⟨some 17, .mv (.tmp 68), none⟩]
def o7_46 : List AOper := [⟨some 70, .load true [.int .i64, .int .i64, .slice] (.tmp 5), none⟩,
  ⟨some 71, .call false (.func 28) [.tmp 70] [(true, [.int .i64, .int .i64, .slice])] true, none⟩,
  ⟨some 72, .mv (.tmp 1), none⟩,
  ⟨some 73, .mv (.tmp 2), none⟩,
  ⟨some 74, .mv (.tmp 3), none⟩,
  ⟨some 75, .mv (.tmp 4), none⟩,
  ⟨some 76, .call false (.func 29) [.tmp 71, .tmp 72, .tmp 73, .tmp 74, .tmp 75] [(true, [.int .i64, .int .i64, .slice]), (false, [.bool])] false, none⟩,
  ⟨some 69, .mv (.tmp 76), none⟩,
  ⟨some 77, .extract (.tmp 69) 0, none⟩,
  ⟨some 78, .extract (.tmp 69) 1, none⟩,
  ⟨some 18, .alloc [.int .i64 0, .int .i64 0, .slice none 0 0], none⟩,
  ⟨none, .store 3 (.tmp 18) (.tmp 77), none⟩,
  ⟨some 19, .mv (.tmp 78), none⟩]
def o7_48 : List AOper := [⟨some 80, .load true [.int .i64, .int .i64, .slice] (.tmp 5), none⟩,
  ⟨some 81, .mv (.tmp 1), none⟩,
  ⟨some 82, .mv (.tmp 2), none⟩,
  ⟨some 83, .mv (.tmp 3), none⟩,
  ⟨some 84, .mv (.tmp 4), none⟩,
  ⟨some 85, .call false (.func 37) [.tmp 80, .tmp 81, .tmp 82, .tmp 83, .tmp 84] [(true, [.int .i64, .int .i64, .slice]), (false, [.bool])] false, none⟩,
  ⟨some 79, .mv (.tmp 85), none⟩,
  ⟨some 86, .extract (.tmp 79) 0, none⟩,
  ⟨some 87, .extract (.tmp 79) 1, none⟩,
  ⟨some 20, .alloc [.int .i64 0, .int .i64 0, .slice none 0 0], none⟩,
  ⟨none, .store 3 (.tmp 20) (.tmp 86), none⟩,
  ⟨some 21, .mv (.tmp 87), none⟩]
def o7_50 : List (AOper × Option Nat) := [(⟨some 88, .load true [.int .i64, .int .i64, .slice] (.tmp 5), none⟩, none),
  (⟨some 89, .call false (.func 28) [.tmp 88] [(true, [.int .i64, .int .i64, .slice])] true, none⟩, none),
  (⟨some 90, .call false (.func 27) [.tmp 89] [(true, [.int .i64, .int .i64, .slice])] true, none⟩, none),
  (⟨some 91, .call false (.func 32) [.tmp 90] [(true, [.int .i64, .int .i64, .slice])] true, none⟩, none),
  (⟨some 92, .load true [.int .i64, .int .i64, .slice] (.tmp 5), none⟩, none),
  (⟨some 93, .call false (.func 38) [.tmp 92] [(true, [.int .i64, .int .i64, .slice])] true, none⟩, none),
  (⟨some 94, .call false (.func 31) [.tmp 91, .tmp 93] [(false, [.bool])] true, none⟩, none),
  (⟨some 95, .mv (.tmp 94), none⟩, none),
  (⟨some 96, .load true [.int .i64, .int .i64, .slice] (.tmp 14), some (95, true)⟩, none),
  (⟨some 97, .call false (.func 32) [.tmp 96] [(true, [.int .i64, .int .i64, .slice])] true, some (95, true)⟩, none),
  (⟨some 98, .load true [.int .i64, .int .i64, .slice] (.tmp 16), some (95, true)⟩, none),
  (⟨some 99, .call false (.func 31) [.tmp 97, .tmp 98] [(false, [.bool])] true, some (95, true)⟩, none),
  (⟨some 100, .pick (.tmp 95) (.tmp 99) (.const (.bool false)), none⟩, none),
  (⟨some 101, .mv (.tmp 100), none⟩, none),
  (⟨some 102, .mv (.tmp 15), some (101, true)⟩, none),
  (⟨some 103, .mv (.tmp 17), some (101, true)⟩, none),
  (⟨some 104, .binB false (.tmp 102) (.tmp 103), some (101, true)⟩, none),
  (⟨some 105, .pick (.tmp 101) (.tmp 104) (.const (.bool false)), none⟩, none),
  (⟨some 106, .mv (.tmp 105), none⟩, none),
  (⟨some 107, .load true [.int .i64, .int .i64, .slice] (.tmp 18), some (106, true)⟩, none),
  (⟨some 108, .call false (.func 32) [.tmp 107] [(true, [.int .i64, .int .i64, .slice])] true, some (106, true)⟩, none),
  (⟨some 109, .load true [.int .i64, .int .i64, .slice] (.tmp 20), some (106, true)⟩, none),
  (⟨some 110, .call false (.func 31) [.tmp 108, .tmp 109] [(false, [.bool])] true, some (106, true)⟩, none),
  (⟨some 111, .pick (.tmp 106) (.tmp 110) (.const (.bool false)), none⟩, none),
  (⟨some 112, .mv (.tmp 111), none⟩, none),
  (⟨some 113, .mv (.tmp 19), some (112, true)⟩, none),
  (⟨some 114, .mv (.tmp 21), some (112, true)⟩, none),
  (⟨some 115, .binB false (.tmp 113) (.tmp 114), some (112, true)⟩, none),
  (⟨some 116, .pick (.tmp 112) (.tmp 115) (.const (.bool false)), none⟩, none),
  (⟨some 117, .mv (.tmp 116), none⟩, none),
  (⟨some 118, .mv (.tmp 3), some (117, true)⟩, none),
  (⟨some 119, .mv (.tmp 4), some (117, true)⟩, none),
  (⟨some 120, .call true (.func 34) [.tmp 118, .tmp 119] [(false, [.int .i64])] true, some (117, true)⟩, none),
  (⟨some 121, .mv (.tmp 3), some (117, true)⟩, none),
  (⟨some 122, .mv (.tmp 4), some (117, true)⟩, none),
  (⟨some 123, .call true (.func 39) [.tmp 121, .tmp 122] [(false, [.int .i64])] true, some (117, true)⟩, none),
  (⟨some 124, .bin .eql (.tmp 120) (.tmp 123), some (117, true)⟩, none),
  (⟨some 125, .pick (.tmp 117) (.tmp 124) (.const (.bool false)), none⟩, none),
  (⟨some 126, .mv (.tmp 125), none⟩, none),
  (⟨some 127, .call true (.func 26) [] [(false, [.bool])] true, some (126, true)⟩, none),
  (⟨some 128, .pick (.tmp 126) (.tmp 127) (.const (.bool false)), none⟩, none),
  (⟨some 10, .mv (.tmp 128), none⟩, none)]
def c7_41 : ACode := .seq (.ops o7_42) (.seq (.ops o7_44) (.seq (.ops o7_46) (.seq (.ops o7_48) (.seq (.draw [] 0 o7_50 [(4, 1), (4, 2), (4, 3), (10, 9), (21, 20)]) (.ret)))))
def c7_0 : ACode := .seq (.ops o7_1) (.seq (.seq (.ops o7_4) (.cond (.tmp 25) (.seq (.ops o7_7) (.ret)) (.skip))) (.seq (.draw [] 0 o7_11 [(3, 1), (3, 2)]) (.seq (.seq (.ops o7_14) (.cond (.tmp 36) (.seq (.ops o7_17) (.ret)) (.skip))) (.seq (.seq (.ops o7_22) (.block 0 (.clear [0, 6, 7, 8, 9, 10, 14, 15, 16, 17, 18, 19, 20, 21, 22, 23, 24, 25, 26, 27, 28, 29, 30, 31, 32, 33, 34, 35, 36, 37, 38, 39, 40, 41, 42, 43, 44, 45, 46, 47, 48, 49, 50, 51, 52, 53, 54, 55, 56, 57, 58, 59, 60, 61, 62, 63, 64, 65, 66, 67, 68, 69, 70, 71, 72, 73, 74, 75, 76, 77, 78, 79, 80, 81, 82, 83, 84, 85, 86, 87, 88, 89, 90, 91, 92, 93, 94, 95, 96, 97, 98, 99, 100, 101, 102, 103, 104, 105, 106, 107, 108, 109, 110, 111, 112, 113, 114, 115, 116, 117, 118, 119, 120, 121, 122, 123, 124, 125, 126, 127, 128] (.loop b7_24)))) (.clear [0, 6, 7, 8, 9, 10, 11, 12, 13, 14, 15, 16, 17, 18, 19, 20, 21, 22, 23, 24, 25, 26, 27, 28, 29, 30, 31, 32, 33, 34, 35, 36, 37, 38, 39, 40, 41, 42, 43, 44, 45, 46, 47, 48, 49, 50, 51, 52, 53, 54, 55, 56, 57, 58, 59, 60, 61, 62, 63, 64, 65, 66, 67, 68, 69, 70, 71, 72, 73, 74, 75, 76, 77, 78, 79, 80, 81, 82, 83, 84, 85, 86, 87, 88, 89, 90, 91, 92, 93, 94, 95, 96, 97, 98, 99, 100, 101, 102, 103, 104, 105, 106, 107, 108, 109, 110, 111, 112, 113, 114, 115, 116, 117, 118, 119, 120, 121, 122, 123, 124, 125, 126, 127, 128] c7_41)))))
def a7 : AFun := ⟨129, [.tmp 10], c7_0⟩
theorem ok7 : OkFun Try.prog 7 a7 := ⟨Try.f7, Try.f7.body.getD .skip, Try.func7, by kernel_rfl, by kernel_rfl, by kernel_rfl, by kernel_rfl, by kernel_rfl⟩
/-! #### skylightlaw49.DiffTells -/
def o8_1 : List AOper := [⟨some 5, .box (.tmp 0), none⟩,
  ⟨some 6, .box (.tmp 1), none⟩,
  ⟨some 10, .mv (.const (.bool false)), none⟩]
def o8_4 : List AOper := [⟨some 26, .fieldAddr 2 (.tmp 5), none⟩,
  ⟨some 27, .load false [.slice] (.tmp 26), none⟩,
  ⟨some 28, .len (.tmp 27), none⟩,
  ⟨some 29, .bin .gtr (.tmp 28) (.const (.int .i64 30)), none⟩,
  ⟨some 30, .mv (.tmp 29), none⟩,
  ⟨some 31, .fieldAddr 2 (.tmp 6), some (30, false)⟩,
  ⟨some 32, .load false [.slice] (.tmp 31), some (30, false)⟩,
  ⟨some 33, .len (.tmp 32), some (30, false)⟩,
  ⟨some 34, .bin .gtr (.tmp 33) (.const (.int .i64 30)), some (30, false)⟩,
  ⟨some 35, .pick (.tmp 30) (.const (.bool true)) (.tmp 34), none⟩,
  ⟨some 36, .mv (.tmp 35), none⟩,
  ⟨some 37, .mv (.tmp 2), some (36, false)⟩,
  ⟨some 38, .len (.tmp 37), some (36, false)⟩,
  ⟨some 39, .bin .gtr (.tmp 38) (.const (.int .i64 20)), some (36, false)⟩,
  ⟨some 40, .pick (.tmp 36) (.const (.bool true)) (.tmp 39), none⟩]
def o8_7 : List AOper := [⟨some 41, .call true (.func 40) [] [(false, [.bool])] true, none⟩,
  ⟨some 10, .mv (.tmp 41), none⟩]
def o8_11 : List (AOper × Option Nat) := [(⟨some 43, .load true [.int .i64, .int .i64, .slice] (.tmp 5), none⟩, none),
  (⟨some 44, .call false (.func 42) [.tmp 43] [(true, [.int .i64, .int .i64, .slice])] true, none⟩, none),
  (⟨some 45, .load true [.int .i64, .int .i64, .slice] (.tmp 6), none⟩, none),
  (⟨some 46, .call false (.func 42) [.tmp 45] [(true, [.int .i64, .int .i64, .slice])] true, none⟩, none),
  (⟨some 47, .call false (.func 41) [.tmp 44, .tmp 46] [(true, [.int .i64, .int .i64, .int .i64, .int .i64]), (false, [.bool])] false, none⟩, none),
  (⟨some 42, .mv (.tmp 47), none⟩, none),
  (⟨some 48, .extract (.tmp 42) 0, none⟩, none),
  (⟨some 49, .extract (.tmp 42) 1, none⟩, none),
  (⟨some 11, .nilCheck (.tmp 11), none⟩, none),
  (⟨none, .store 4 (.tmp 11) (.tmp 48), none⟩, none),
  (⟨some 12, .mv (.tmp 49), none⟩, none)]
def f8_11 : List AOper := [⟨some 11, .alloc [.int .i64 0, .int .i64 0, .int .i64 0, .int .i64 0], none⟩]
def o8_13 : List AOper := [⟨some 51, .load true [.int .i64, .int .i64, .slice] (.tmp 5), none⟩,
  ⟨some 52, .load true [.int .i64, .int .i64, .slice] (.tmp 6), none⟩,
  ⟨some 53, .call false (.func 43) [.tmp 51, .tmp 52] [(true, [.int .i64, .int .i64, .int .i64, .int .i64]), (false, [.bool])] false, none⟩,
  ⟨some 50, .mv (.tmp 53), none⟩,
  ⟨some 54, .extract (.tmp 50) 0, none⟩,
  ⟨some 55, .extract (.tmp 50) 1, none⟩,
  ⟨some 13, .alloc [.int .i64 0, .int .i64 0, .int .i64 0, .int .i64 0], none⟩,
  ⟨none, .store 4 (.tmp 13) (.tmp 54), none⟩,
  ⟨some 14, .mv (.tmp 55), none⟩]
def o8_15 : List (AOper × Option Nat) := [(⟨some 56, .load true [.int .i64, .int .i64, .slice] (.tmp 5), none⟩, none),
  (⟨some 57, .call false (.func 42) [.tmp 56] [(true, [.int .i64, .int .i64, .slice])] true, none⟩, none),
  (⟨some 58, .load true [.int .i64, .int .i64, .slice] (.tmp 6), none⟩, none),
  (⟨some 59, .call false (.func 42) [.tmp 58] [(true, [.int .i64, .int .i64, .slice])] true, none⟩, none),
  (⟨some 60, .call false (.func 44) [.tmp 57, .tmp 59] [(false, [.slice])] true, none⟩, none),
  (⟨some 61, .load true [.int .i64, .int .i64, .slice] (.tmp 5), none⟩, none),
  (⟨some 62, .load true [.int .i64, .int .i64, .slice] (.tmp 6), none⟩, none),
  (⟨some 63, .call false (.func 45) [.tmp 61, .tmp 62] [(false, [.slice])] true, none⟩, none),
  (⟨some 15, .mv (.tmp 60), none⟩, none),
  (⟨some 16, .mv (.tmp 63), none⟩, none)]
def o8_18 : List AOper := [⟨some 64, .mv (.tmp 15), none⟩,
  ⟨some 65, .len (.tmp 64), none⟩,
  ⟨some 66, .mv (.tmp 16), none⟩,
  ⟨some 67, .len (.tmp 66), none⟩,
  ⟨some 68, .bin .neq (.tmp 65) (.tmp 67), none⟩]
def o8_21 : List AOper := [⟨some 10, .mv (.const (.bool false)), none⟩]
def o8_26 : List AOper := [⟨some 17, .mv (.const (.int .i64 0)), none⟩]
def o8_31 : List AOper := [⟨some 69, .mv (.tmp 17), none⟩,
  ⟨some 70, .mv (.tmp 15), none⟩,
  ⟨some 71, .len (.tmp 70), none⟩,
  ⟨some 72, .bin .lss (.tmp 69) (.tmp 71), none⟩]
def o8_38 : List (AOper × Option Nat) := [(⟨some 75, .mv (.tmp 15), none⟩, none),
  (⟨some 76, .mv (.tmp 17), none⟩, none),
  (⟨some 77, .indexAddr 1 (.tmp 75) (.tmp 76), none⟩, none),
  (⟨some 78, .load false [.int .i64] (.tmp 77), none⟩, none),
  (⟨some 79, .mv (.tmp 16), none⟩, none),
  (⟨some 80, .mv (.tmp 17), none⟩, none),
  (⟨some 81, .indexAddr 1 (.tmp 79) (.tmp 80), none⟩, none),
  (⟨some 82, .load false [.int .i64] (.tmp 81), none⟩, none),
  (⟨some 83, .bin .neq (.tmp 78) (.tmp 82), none⟩, none)]
def o8_41 : List AOper := [⟨some 10, .mv (.const (.bool false)), none⟩]
def o8_44 : List AOper := [⟨some 73, .mv (.tmp 17), none⟩,
  ⟨some 74, .bin .add (.tmp 73) (.const (.int .i64 1)), none⟩,
  ⟨some 17, .mv (.tmp 74), none⟩]
def c8_44 : ACode := .ops o8_44
def b8_28 : ACode := .post (.seq (.seq (.ops o8_31) (.cond (.tmp 72) (.skip) (.exit 0))) (.seq (.block 1 (.seq (.draw [] 0 o8_38 []) (.cond (.tmp 83) (.seq (.ops o8_41) (.ret)) (.skip)))) (.clear [0, 1, 7, 8, 9, 10, 18, 19, 20, 21, 22, 23, 24, 25, 26, 27, 28, 29, 30, 31, 32, 33, 34, 35, 36, 37, 38, 39, 40, 41, 42, 43, 44, 45, 46, 47, 48, 49, 50, 51, 52, 53, 54, 55, 56, 57, 58, 59, 60, 61, 62, 63, 64, 65, 66, 67, 68, 69, 70, 71, 72, 73, 74, 75, 76, 77, 78, 79, 80, 81, 82, 83, 84, 85, 86, 87, 88, 89, 90, 91, 92, 93, 94, 95, 96, 97, 98, 99, 100, 101, 102, 103, 104, 105, 106, 107, 108, 109, 110, 111, 112, 113, 114, 115, 116, 117, 118, 119, 120, 121, 122, 123, 124, 125, 126, 127, 128, 129, 130, 131, 132, 133, 134, 135, 136, 137, 138, 139, 140, 141, 142, 143, 144, 145, 146, 147, 148, 149, 150, 151, 152, 153, 154, 155, 156, 157, 158, 159, 160, 161, 162, 163, 164, 165, 166, 167, 168, 169, 170, 171, 172, 173, 174, 175, 176, 177, 178, 179, 180, 181, 182] c8_44))) [0, 1, 7, 8, 9, 10, 18, 19, 20, 21, 22, 23, 24, 25, 26, 27, 28, 29, 30, 31, 32, 33, 34, 35, 36, 37, 38, 39, 40, 41, 42, 43, 44, 45, 46, 47, 48, 49, 50, 51, 52, 53, 54, 55, 56, 57, 58, 59, 60, 61, 62, 63, 64, 65, 66, 67, 68, 69, 70, 71, 72, 73, 74, 75, 76, 77, 78, 79, 80, 81, 82, 83, 84, 85, 86, 87, 88, 89, 90, 91, 92, 93, 94, 95, 96, 97, 98, 99, 100, 101, 102, 103, 104, 105, 106, 107, 108, 109, 110, 111, 112, 113, 114, 115, 116, 117, 118, 119, 120, 121, 122, 123, 124, 125, 126, 127, 128, 129, 130, 131, 132, 133, 134, 135, 136, 137, 138, 139, 140, 141, 142, 143, 144, 145, 146, 147, 148, 149, 150, 151, 152, 153, 154, 155, 156, 157, 158, 159, 160, 161, 162, 163, 164, 165, 166, 167, 168, 169, 170, 171, 172, 173, 174, 175, 176, 177, 178, 179, 180, 181, 182]
def o8_46 : List (AOper × Option Nat) := [(⟨some 85, .load true [.int .i64, .int .i64, .slice] (.tmp 5), none⟩, none),
  (⟨some 86, .call false (.func 42) [.tmp 85] [(true, [.int .i64, .int .i64, .slice])] true, none⟩, none),
  (⟨some 87, .mv (.tmp 2), none⟩, none),
  (⟨some 88, .load true [.int .i64, .int .i64, .slice] (.tmp 6), none⟩, none),
  (⟨some 89, .call false (.func 42) [.tmp 88] [(true, [.int .i64, .int .i64, .slice])] true, none⟩, none),
  (⟨some 90, .call false (.func 46) [.tmp 86, .tmp 87, .tmp 89] [(true, [.int .i64, .int .i64, .slice]), (false, [.bool])] false, none⟩, none),
  (⟨some 84, .mv (.tmp 90), none⟩, none),
  (⟨some 91, .extract (.tmp 84) 0, none⟩, none),
  (⟨some 92, .extract (.tmp 84) 1, none⟩, none),
  (⟨some 18, .nilCheck (.tmp 18), none⟩, none),
  (⟨none, .store 3 (.tmp 18) (.tmp 91), none⟩, none),
  (⟨some 19, .mv (.tmp 92), none⟩, none)]
def f8_46 : List AOper := [⟨some 18, .alloc [.int .i64 0, .int .i64 0, .slice none 0 0], none⟩]
def o8_48 : List AOper := [⟨some 94, .load true [.int .i64, .int .i64, .slice] (.tmp 5), none⟩,
  ⟨some 95, .mv (.tmp 2), none⟩,
  ⟨some 96, .load true [.int .i64, .int .i64, .slice] (.tmp 6), none⟩,
  ⟨some 97, .call false (.func 47) [.tmp 94, .tmp 95, .tmp 96] [(true, [.int .i64, .int .i64, .slice]), (false, [.bool])] false, none⟩,
  ⟨some 93, .mv (.tmp 97), none⟩,
  ⟨some 98, .extract (.tmp 93) 0, none⟩,
  ⟨some 99, .extract (.tmp 93) 1, none⟩,
  ⟨some 20, .alloc [.int .i64 0, .int .i64 0, .slice none 0 0], none⟩,
  ⟨none, .store 3 (.tmp 20) (.tmp 98), none⟩,
  ⟨some 21, .mv (.tmp 99), none⟩]
def o8_50 : List (AOper × Option Nat) := [(⟨some 101, .load true [.int .i64, .int .i64, .slice] (.tmp 5), none⟩, none),
  (⟨some 102, .call false (.func 42) [.tmp 101] [(true, [.int .i64, .int .i64, .slice])] true, none⟩, none),
  (⟨some 103, .load true [.int .i64, .int .i64, .slice] (.tmp 6), none⟩, none),
  (⟨some 104, .call false (.func 42) [.tmp 103] [(true, [.int .i64, .int .i64, .slice])] true, none⟩, none),
  (⟨some 105, .mv (.tmp 3), none⟩, none),
  (⟨some 106, .call false (.func 48) [.tmp 102, .tmp 104, .tmp 105] [(true, [.int .i64, .int .i64, .slice]), (false, [.bool])] false, none⟩, none),
  (⟨some 100, .mv (.tmp 106), none⟩, none),
  (⟨some 107, .extract (.tmp 100) 0, none⟩, none),
  (⟨some 108, .extract (.tmp 100) 1, none⟩, none),
  (⟨some 22, .nilCheck (.tmp 22), none⟩, none),
  (⟨none, .store 3 (.tmp 22) (.tmp 107), none⟩, none),
  (⟨some 23, .mv (.tmp 108), none⟩, none)]
def f8_50 : List AOper := [⟨some 22, .alloc [.int .i64 0, .int .i64 0, .slice none 0 0], none⟩]
def o8_52 : List AOper := [⟨some 110, .load true [.int .i64, .int .i64, .slice] (.tmp 5), none⟩,
  ⟨some 111, .load true [.int .i64, .int .i64, .slice] (.tmp 6), none⟩,
  ⟨some 112, .mv (.tmp 3), none⟩,
  ⟨some 113, .call false (.func 49) [.tmp 110, .tmp 111, .tmp 112] [(true, [.int .i64, .int .i64, .slice]), (false, [.bool])] false, none⟩,
  ⟨some 109, .mv (.tmp 113), none⟩,
  ⟨some 114, .extract (.tmp 109) 0, none⟩,
  ⟨some 115, .extract (.tmp 109) 1, none⟩,
  ⟨some 24, .alloc [.int .i64 0, .int .i64 0, .slice none 0 0], none⟩,
  ⟨none, .store 3 (.tmp 24) (.tmp 114), none⟩,
  ⟨some 25, .mv (.tmp 115), none⟩]
def o8_54 : List (AOper × Option Nat) := [(⟨some 116, .fieldAddr 0 (.tmp 11), none⟩, none),
  (⟨some 117, .load false [.int .i64] (.tmp 116), none⟩, none),
  (⟨some 118, .fieldAddr 0 (.tmp 13), none⟩, none),
  (⟨some 119, .load false [.int .i64] (.tmp 118), none⟩, none),
  (⟨some 120, .bin .eql (.tmp 117) (.tmp 119), none⟩, none),
  (⟨some 121, .mv (.tmp 120), none⟩, none),
  (⟨some 122, .fieldAddr 1 (.tmp 11), some (121, true)⟩, none),
  (⟨some 123, .load false [.int .i64] (.tmp 122), some (121, true)⟩, none),
  (⟨some 124, .fieldAddr 1 (.tmp 13), some (121, true)⟩, none),
  (⟨some 125, .load false [.int .i64] (.tmp 124), some (121, true)⟩, none),
  (⟨some 126, .bin .eql (.tmp 123) (.tmp 125), some (121, true)⟩, none),
  (⟨some 127, .pick (.tmp 121) (.tmp 126) (.const (.bool false)), none⟩, none),
  (⟨some 128, .mv (.tmp 127), none⟩, none),
  (⟨some 129, .fieldAddr 2 (.tmp 11), some (128, true)⟩, none),
  (⟨some 130, .load false [.int .i64] (.tmp 129), some (128, true)⟩, none),
  (⟨some 131, .fieldAddr 2 (.tmp 13), some (128, true)⟩, none),
  (⟨some 132, .load false [.int .i64] (.tmp 131), some (128, true)⟩, none),
  (⟨some 133, .bin .eql (.tmp 130) (.tmp 132), some (128, true)⟩, none),
  (⟨some 134, .pick (.tmp 128) (.tmp 133) (.const (.bool false)), none⟩, none),
  (⟨some 135, .mv (.tmp 134), none⟩, none),
  (⟨some 136, .fieldAddr 3 (.tmp 11), some (135, true)⟩, none),
  (⟨some 137, .load false [.int .i64] (.tmp 136), some (135, true)⟩, none),
  (⟨some 138, .fieldAddr 3 (.tmp 13), some (135, true)⟩, none),
  (⟨some 139, .load false [.int .i64] (.tmp 138), some (135, true)⟩, none),
  (⟨some 140, .bin .eql (.tmp 137) (.tmp 139), some (135, true)⟩, none),
  (⟨some 141, .pick (.tmp 135) (.tmp 140) (.const (.bool false)), none⟩, none),
  (⟨some 142, .mv (.tmp 141), none⟩, none),
  (⟨some 143, .mv (.tmp 12), some (142, true)⟩, none),
  (⟨some 144, .mv (.tmp 14), some (142, true)⟩, none),
  (⟨some 145, .binB false (.tmp 143) (.tmp 144), some (142, true)⟩, none),
  (⟨some 146, .pick (.tmp 142) (.tmp 145) (.const (.bool false)), none⟩, none),
  (⟨some 147, .mv (.tmp 146), none⟩, none),
  (⟨some 148, .load true [.int .i64, .int .i64, .slice] (.tmp 18), some (147, true)⟩, none),
  (⟨some 149, .call false (.func 50) [.tmp 148] [(true, [.int .i64, .int .i64, .slice])] true, some (147, true)⟩, none),
  (⟨some 150, .load true [.int .i64, .int .i64, .slice] (.tmp 20), some (147, true)⟩, none),
  (⟨some 151, .call false (.func 31) [.tmp 149, .tmp 150] [(false, [.bool])] true, some (147, true)⟩, none),
  (⟨some 152, .pick (.tmp 147) (.tmp 151) (.const (.bool false)), none⟩, none),
  (⟨some 153, .mv (.tmp 152), none⟩, none),
  (⟨some 154, .mv (.tmp 19), some (153, true)⟩, none),
  (⟨some 155, .mv (.tmp 21), some (153, true)⟩, none),
  (⟨some 156, .binB false (.tmp 154) (.tmp 155), some (153, true)⟩, none),
  (⟨some 157, .pick (.tmp 153) (.tmp 156) (.const (.bool false)), none⟩, none),
  (⟨some 158, .mv (.tmp 157), none⟩, none),
  (⟨some 159, .load true [.int .i64, .int .i64, .slice] (.tmp 22), some (158, true)⟩, none),
  (⟨some 160, .call false (.func 50) [.tmp 159] [(true, [.int .i64, .int .i64, .slice])] true, some (158, true)⟩, none),
  (⟨some 161, .load true [.int .i64, .int .i64, .slice] (.tmp 24), some (158, true)⟩, none),
  (⟨some 162, .call false (.func 31) [.tmp 160, .tmp 161] [(false, [.bool])] true, some (158, true)⟩, none),
  (⟨some 163, .pick (.tmp 158) (.tmp 162) (.const (.bool false)), none⟩, none),
  (⟨some 164, .mv (.tmp 163), none⟩, none),
  (⟨some 165, .mv (.tmp 23), some (164, true)⟩, none),
  (⟨some 166, .mv (.tmp 25), some (164, true)⟩, none),
  (⟨some 167, .binB false (.tmp 165) (.tmp 166), some (164, true)⟩, none),
  (⟨some 168, .pick (.tmp 164) (.tmp 167) (.const (.bool false)), none⟩, none),
  (⟨some 169, .mv (.tmp 168), none⟩, none),
  (⟨some 170, .mv (.tmp 4), some (169, true)⟩, none),
  (⟨some 171, .build [.int .i64 0, .int .i64 0, .int .i64 0, .int .i64 0] [(3, 1, .tmp 170)], some (169, true)⟩, none),
  (⟨some 172, .mv (.tmp 3), some (169, true)⟩, none),
  (⟨some 173, .call true (.func 51) [.tmp 171, .tmp 172] [(false, [.int .i64])] true, some (169, true)⟩, none),
  (⟨some 174, .mv (.tmp 4), some (169, true)⟩, none),
  (⟨some 175, .build [.int .i64 0, .int .i64 0, .int .i64 0, .int .i64 0] [(3, 1, .tmp 174)], some (169, true)⟩, none),
  (⟨some 176, .mv (.tmp 3), some (169, true)⟩, none),
  (⟨some 177, .call true (.func 52) [.tmp 175, .tmp 176] [(false, [.int .i64])] true, some (169, true)⟩, none),
  (⟨some 178, .bin .eql (.tmp 173) (.tmp 177), some (169, true)⟩, none),
  (⟨some 179, .pick (.tmp 169) (.tmp 178) (.const (.bool false)), none⟩, none),
  (⟨some 180, .mv (.tmp 179), none⟩, none),
  (⟨some 181, .call true (.func 40) [] [(false, [.bool])] true, some (180, true)⟩, none),
  (⟨some 182, .pick (.tmp 180) (.tmp 181) (.const (.bool false)), none⟩, none),
  (⟨some 10, .mv (.tmp 182), none⟩, none)]
def c8_51 : ACode := .seq (.ops o8_52) (.seq (.draw [] 0 o8_54 [(34, 33), (45, 44)]) (.ret))
def c8_45 : ACode := .seq (.draw f8_46 0 o8_46 [(3, 1), (9, 1), (9, 4), (9, 5)]) (.seq (.ops o8_48) (.seq (.draw f8_50 0 o8_50 [(2, 1), (9, 1), (9, 3), (9, 5)]) (.clear [0, 1, 2, 7, 8, 9, 10, 15, 16, 17, 24, 25, 26, 27, 28, 29, 30, 31, 32, 33, 34, 35, 36, 37, 38, 39, 40, 41, 42, 43, 44, 45, 46, 47, 48, 49, 50, 51, 52, 53, 54, 55, 56, 57, 58, 59, 60, 61, 62, 63, 64, 65, 66, 67, 68, 69, 70, 71, 72, 73, 74, 75, 76, 77, 78, 79, 80, 81, 82, 83, 84, 85, 86, 87, 88, 89, 90, 91, 92, 93, 94, 95, 96, 97, 98, 99, 100, 101, 102, 103, 104, 105, 106, 107, 108, 109, 110, 111, 112, 113, 114, 115, 116, 117, 118, 119, 120, 121, 122, 123, 124, 125, 126, 127, 128, 129, 130, 131, 132, 133, 134, 135, 136, 137, 138, 139, 140, 141, 142, 143, 144, 145, 146, 147, 148, 149, 150, 151, 152, 153, 154, 155, 156, 157, 158, 159, 160, 161, 162, 163, 164, 165, 166, 167, 168, 169, 170, 171, 172, 173, 174, 175, 176, 177, 178, 179, 180, 181, 182] c8_51)))
def c8_14 : ACode := .seq (.draw [] 0 o8_15 [(2, 1), (5, 1), (5, 3), (5, 4), (6, 1), (6, 3), (6, 4)]) (.seq (.seq (.ops o8_18) (.cond (.tmp 68) (.seq (.ops o8_21) (.ret)) (.skip))) (.seq (.seq (.ops o8_26) (.block 0 (.clear [0, 1, 7, 8, 9, 10, 18, 19, 20, 21, 22, 23, 24, 25, 26, 27, 28, 29, 30, 31, 32, 33, 34, 35, 36, 37, 38, 39, 40, 41, 42, 43, 44, 45, 46, 47, 48, 49, 50, 51, 52, 53, 54, 55, 56, 57, 58, 59, 60, 61, 62, 63, 64, 65, 66, 67, 68, 69, 70, 71, 72, 73, 74, 75, 76, 77, 78, 79, 80, 81, 82, 83, 84, 85, 86, 87, 88, 89, 90, 91, 92, 93, 94, 95, 96, 97, 98, 99, 100, 101, 102, 103, 104, 105, 106, 107, 108, 109, 110, 111, 112, 113, 114, 115, 116, 117, 118, 119, 120, 121, 122, 123, 124, 125, 126, 127, 128, 129, 130, 131, 132, 133, 134, 135, 136, 137, 138, 139, 140, 141, 142, 143, 144, 145, 146, 147, 148, 149, 150, 151, 152, 153, 154, 155, 156, 157, 158, 159, 160, 161, 162, 163, 164, 165, 166, 167, 168, 169, 170, 171, 172, 173, 174, 175, 176, 177, 178, 179, 180, 181, 182] (.loop b8_28)))) (.clear [0, 1, 7, 8, 9, 10, 15, 16, 17, 18, 19, 20, 21, 22, 23, 24, 25, 26, 27, 28, 29, 30, 31, 32, 33, 34, 35, 36, 37, 38, 39, 40, 41, 42, 43, 44, 45, 46, 47, 48, 49, 50, 51, 52, 53, 54, 55, 56, 57, 58, 59, 60, 61, 62, 63, 64, 65, 66, 67, 68, 69, 70, 71, 72, 73, 74, 75, 76, 77, 78, 79, 80, 81, 82, 83, 84, 85, 86, 87, 88, 89, 90, 91, 92, 93, 94, 95, 96, 97, 98, 99, 100, 101, 102, 103, 104, 105, 106, 107, 108, 109, 110, 111, 112, 113, 114, 115, 116, 117, 118, 119, 120, 121, 122, 123, 124, 125, 126, 127, 128, 129, 130, 131, 132, 133, 134, 135, 136, 137, 138, 139, 140, 141, 142, 143, 144, 145, 146, 147, 148, 149, 150, 151, 152, 153, 154, 155, 156, 157, 158, 159, 160, 161, 162, 163, 164, 165, 166, 167, 168, 169, 170, 171, 172, 173, 174, 175, 176, 177, 178, 179, 180, 181, 182] c8_45)))
def c8_0 : ACode := .seq (.ops o8_1) (.seq (.seq (.ops o8_4) (.cond (.tmp 40) (.seq (.ops o8_7) (.ret)) (.skip))) (.seq (.draw f8_11 0 o8_11 [(2, 1), (8, 1), (8, 3), (8, 4)]) (.seq (.ops o8_13) (.clear [0, 1, 7, 8, 9, 10, 15, 16, 17, 18, 19, 20, 21, 22, 23, 24, 25, 26, 27, 28, 29, 30, 31, 32, 33, 34, 35, 36, 37, 38, 39, 40, 41, 42, 43, 44, 45, 46, 47, 48, 49, 50, 51, 52, 53, 54, 55, 56, 57, 58, 59, 60, 61, 62, 63, 64, 65, 66, 67, 68, 69, 70, 71, 72, 73, 74, 75, 76, 77, 78, 79, 80, 81, 82, 83, 84, 85, 86, 87, 88, 89, 90, 91, 92, 93, 94, 95, 96, 97, 98, 99, 100, 101, 102, 103, 104, 105, 106, 107, 108, 109, 110, 111, 112, 113, 114, 115, 116, 117, 118, 119, 120, 121, 122, 123, 124, 125, 126, 127, 128, 129, 130, 131, 132, 133, 134, 135, 136, 137, 138, 139, 140, 141, 142, 143, 144, 145, 146, 147, 148, 149, 150, 151, 152, 153, 154, 155, 156, 157, 158, 159, 160, 161, 162, 163, 164, 165, 166, 167, 168, 169, 170, 171, 172, 173, 174, 175, 176, 177, 178, 179, 180, 181, 182] c8_14))))
def a8 : AFun := ⟨183, [.tmp 10], c8_0⟩
theorem ok8 : OkFun Try.prog 8 a8 := ⟨Try.f8, Try.f8.body.getD .skip, Try.func8, by kernel_rfl, by kernel_rfl, by kernel_rfl, by kernel_rfl, by kernel_rfl⟩
/-! #### skylightlaw49.DiffThree -/
def o9_1 : List AOper := [⟨some 4, .box (.tmp 0), none⟩,
  ⟨some 5, .box (.tmp 1), none⟩,
  ⟨some 6, .box (.tmp 2), none⟩,
  ⟨some 8, .mv (.const (.bool false)), none⟩]
def o9_4 : List AOper := [⟨some 29, .fieldAddr 2 (.tmp 4), none⟩,
  ⟨some 30, .load false [.slice] (.tmp 29), none⟩,
  ⟨some 31, .len (.tmp 30), none⟩,
  ⟨some 32, .bin .gtr (.tmp 31) (.const (.int .i64 30)), none⟩,
  ⟨some 33, .mv (.tmp 32), none⟩,
  ⟨some 34, .load true [.int .i64, .int .i64, .slice] (.tmp 4), some (33, false)⟩,
  ⟨some 35, .load true [.int .i64, .int .i64, .slice] (.tmp 5), some (33, false)⟩,
  ⟨some 36, .call false (.func 53) [.tmp 34, .tmp 35] [(false, [.bool])] true, some (33, false)⟩,
  ⟨some 37, .un .not (.tmp 36), some (33, false)⟩,
  ⟨some 38, .pick (.tmp 33) (.const (.bool true)) (.tmp 37), none⟩,
  ⟨some 39, .mv (.tmp 38), none⟩,
  ⟨some 40, .load true [.int .i64, .int .i64, .slice] (.tmp 5), some (39, false)⟩,
  ⟨some 41, .load true [.int .i64, .int .i64, .slice] (.tmp 6), some (39, false)⟩,
  ⟨some 42, .call false (.func 53) [.tmp 40, .tmp 41] [(false, [.bool])] true, some (39, false)⟩,
  ⟨some 43, .un .not (.tmp 42), some (39, false)⟩,
  ⟨some 44, .pick (.tmp 39) (.const (.bool true)) (.tmp 43), none⟩]
def o9_7 : List AOper := [⟨some 45, .call true (.func 40) [] [(false, [.bool])] true, none⟩,
  ⟨some 8, .mv (.tmp 45), none⟩]
def o9_11 : List (AOper × Option Nat) := [(⟨some 47, .load true [.int .i64, .int .i64, .slice] (.tmp 4), none⟩, none),
  (⟨some 48, .call false (.func 42) [.tmp 47] [(true, [.int .i64, .int .i64, .slice])] true, none⟩, none),
  (⟨some 49, .load true [.int .i64, .int .i64, .slice] (.tmp 5), none⟩, none),
  (⟨some 50, .call false (.func 42) [.tmp 49] [(true, [.int .i64, .int .i64, .slice])] true, none⟩, none),
  (⟨some 51, .call false (.func 41) [.tmp 48, .tmp 50] [(true, [.int .i64, .int .i64, .int .i64, .int .i64]), (false, [.bool])] false, none⟩, none),
  (⟨some 46, .mv (.tmp 51), none⟩, none),
  (⟨some 52, .extract (.tmp 46) 0, none⟩, none),
  (⟨some 53, .extract (.tmp 46) 1, none⟩, none),
  (⟨some 9, .nilCheck (.tmp 9), none⟩, none),
  (⟨none, .store 4 (.tmp 9) (.tmp 52), none⟩, none),
  (⟨some 10, .mv (.tmp 53), none⟩, none)]
def f9_11 : List AOper := [⟨some 9, .alloc [.int .i64 0, .int .i64 0, .int .i64 0, .int .i64 0], none⟩]
def o9_13 : List (AOper × Option Nat) := [(⟨some 55, .load true [.int .i64, .int .i64, .slice] (.tmp 5), none⟩, none),
  (⟨some 56, .call false (.func 42) [.tmp 55] [(true, [.int .i64, .int .i64, .slice])] true, none⟩, none),
  (⟨some 57, .load true [.int .i64, .int .i64, .slice] (.tmp 4), none⟩, none),
  (⟨some 58, .call false (.func 42) [.tmp 57] [(true, [.int .i64, .int .i64, .slice])] true, none⟩, none),
  (⟨some 59, .call false (.func 41) [.tmp 56, .tmp 58] [(true, [.int .i64, .int .i64, .int .i64, .int .i64]), (false, [.bool])] false, none⟩, none),
  (⟨some 54, .mv (.tmp 59), none⟩, none),
  (⟨some 60, .extract (.tmp 54) 0, none⟩, none),
  (⟨some 61, .extract (.tmp 54) 1, none⟩, none),
  (⟨some 11, .nilCheck (.tmp 11), none⟩, none),
  (⟨none, .store 4 (.tmp 11) (.tmp 60), none⟩, none),
  (⟨some 12, .mv (.tmp 61), none⟩, none)]
def f9_13 : List AOper := [⟨some 11, .alloc [.int .i64 0, .int .i64 0, .int .i64 0, .int .i64 0], none⟩]
def o9_15 : List (AOper × Option Nat) := [(⟨some 63, .load true [.int .i64, .int .i64, .slice] (.tmp 5), none⟩, none),
  (⟨some 64, .call false (.func 42) [.tmp 63] [(true, [.int .i64, .int .i64, .slice])] true, none⟩, none),
  (⟨some 65, .load true [.int .i64, .int .i64, .slice] (.tmp 6), none⟩, none),
  (⟨some 66, .call false (.func 42) [.tmp 65] [(true, [.int .i64, .int .i64, .slice])] true, none⟩, none),
  (⟨some 67, .call false (.func 41) [.tmp 64, .tmp 66] [(true, [.int .i64, .int .i64, .int .i64, .int .i64]), (false, [.bool])] false, none⟩, none),
  (⟨some 62, .mv (.tmp 67), none⟩, none),
  (⟨some 68, .extract (.tmp 62) 0, none⟩, none),
  (⟨some 69, .extract (.tmp 62) 1, none⟩, none),
  (⟨some 13, .nilCheck (.tmp 13), none⟩, none),
  (⟨none, .store 4 (.tmp 13) (.tmp 68), none⟩, none),
  (⟨some 14, .mv (.tmp 69), none⟩, none)]
def f9_15 : List AOper := [⟨some 13, .alloc [.int .i64 0, .int .i64 0, .int .i64 0, .int .i64 0], none⟩]
def o9_17 : List (AOper × Option Nat) := [(⟨some 71, .load true [.int .i64, .int .i64, .slice] (.tmp 4), none⟩, none),
  (⟨some 72, .call false (.func 42) [.tmp 71] [(true, [.int .i64, .int .i64, .slice])] true, none⟩, none),
  (⟨some 73, .load true [.int .i64, .int .i64, .slice] (.tmp 6), none⟩, none),
  (⟨some 74, .call false (.func 42) [.tmp 73] [(true, [.int .i64, .int .i64, .slice])] true, none⟩, none),
  (⟨some 75, .call false (.func 41) [.tmp 72, .tmp 74] [(true, [.int .i64, .int .i64, .int .i64, .int .i64]), (false, [.bool])] false, none⟩, none),
  (⟨some 70, .mv (.tmp 75), none⟩, none),
  (⟨some 76, .extract (.tmp 70) 0, none⟩, none),
  (⟨some 77, .extract (.tmp 70) 1, none⟩, none),
  (⟨some 15, .nilCheck (.tmp 15), none⟩, none),
  (⟨none, .store 4 (.tmp 15) (.tmp 76), none⟩, none),
  (⟨some 16, .mv (.tmp 77), none⟩, none)]
def f9_17 : List AOper := [⟨some 15, .alloc [.int .i64 0, .int .i64 0, .int .i64 0, .int .i64 0], none⟩]
def o9_20 : List (AOper × Option Nat) := [(⟨some 78, .mv (.tmp 10), none⟩, none),
  (⟨some 79, .un .not (.tmp 78), none⟩, none),
  (⟨some 80, .mv (.tmp 79), none⟩, none),
  (⟨some 81, .mv (.tmp 12), some (80, false)⟩, none),
  (⟨some 82, .un .not (.tmp 81), some (80, false)⟩, none),
  (⟨some 83, .pick (.tmp 80) (.const (.bool true)) (.tmp 82), none⟩, none),
  (⟨some 84, .mv (.tmp 83), none⟩, none),
  (⟨some 85, .mv (.tmp 14), some (84, false)⟩, none),
  (⟨some 86, .un .not (.tmp 85), some (84, false)⟩, none),
  (⟨some 87, .pick (.tmp 84) (.const (.bool true)) (.tmp 86), none⟩, none),
  (⟨some 88, .mv (.tmp 87), none⟩, none),
  (⟨some 89, .mv (.tmp 16), some (88, false)⟩, none),
  (⟨some 90, .un .not (.tmp 89), some (88, false)⟩, none),
  (⟨some 91, .pick (.tmp 88) (.const (.bool true)) (.tmp 90), none⟩, none),
  (⟨some 92, .mv (.tmp 91), none⟩, none),
  (⟨some 93, .load true [.int .i64, .int .i64, .int .i64, .int .i64] (.tmp 9), some (92, false)⟩, none),
  (⟨some 94, .load true [.int .i64, .int .i64, .int .i64, .int .i64] (.tmp 11), some (92, false)⟩, none),
  (⟨some 95, .eqAgg [.int .i64, .int .i64, .int .i64, .int .i64] true (.tmp 93) (.tmp 94), some (92, false)⟩, none),
  (⟨some 96, .pick (.tmp 92) (.const (.bool true)) (.tmp 95), none⟩, none),
  (⟨some 97, .mv (.tmp 96), none⟩, none),
  (⟨some 98, .load true [.int .i64, .int .i64, .int .i64, .int .i64] (.tmp 9), some (97, false)⟩, none),
  (⟨some 99, .build [.int .i64 0, .int .i64 0, .int .i64 0, .int .i64 0] [], some (97, false)⟩, none),
  (⟨some 100, .eqAgg [.int .i64, .int .i64, .int .i64, .int .i64] false (.tmp 98) (.tmp 99), some (97, false)⟩, none),
  (⟨some 101, .load true [.int .i64, .int .i64, .slice] (.tmp 4), some (97, false)⟩, none),
  (⟨some 102, .load true [.int .i64, .int .i64, .slice] (.tmp 5), some (97, false)⟩, none),
  (⟨some 103, .call false (.func 31) [.tmp 101, .tmp 102] [(false, [.bool])] true, some (97, false)⟩, none),
  (⟨some 104, .binB true (.tmp 100) (.tmp 103), some (97, false)⟩, none),
  (⟨some 105, .pick (.tmp 97) (.const (.bool true)) (.tmp 104), none⟩, none),
  (⟨some 106, .mv (.tmp 105), none⟩, none),
  (⟨some 107, .fieldAddr 2 (.tmp 15), some (106, false)⟩, none),
  (⟨some 108, .load false [.int .i64] (.tmp 107), some (106, false)⟩, none),
  (⟨some 109, .fieldAddr 2 (.tmp 9), some (106, false)⟩, none),
  (⟨some 110, .load false [.int .i64] (.tmp 109), some (106, false)⟩, none),
  (⟨some 111, .fieldAddr 2 (.tmp 13), some (106, false)⟩, none),
  (⟨some 112, .load false [.int .i64] (.tmp 111), some (106, false)⟩, none),
  (⟨some 113, .bin .add (.tmp 110) (.tmp 112), some (106, false)⟩, none),
  (⟨some 114, .bin .gtr (.tmp 108) (.tmp 113), some (106, false)⟩, none),
  (⟨some 115, .pick (.tmp 106) (.const (.bool true)) (.tmp 114), none⟩, none),
  (⟨some 116, .mv (.tmp 115), none⟩, none),
  (⟨some 117, .fieldAddr 1 (.tmp 15), some (116, false)⟩, none),
  (⟨some 118, .load false [.int .i64] (.tmp 117), some (116, false)⟩, none),
  (⟨some 119, .fieldAddr 1 (.tmp 9), some (116, false)⟩, none),
  (⟨some 120, .load false [.int .i64] (.tmp 119), some (116, false)⟩, none),
  (⟨some 121, .fieldAddr 1 (.tmp 13), some (116, false)⟩, none),
  (⟨some 122, .load false [.int .i64] (.tmp 121), some (116, false)⟩, none),
  (⟨some 123, .bin .add (.tmp 120) (.tmp 122), some (116, false)⟩, none),
  (⟨some 124, .bin .gtr (.tmp 118) (.tmp 123), some (116, false)⟩, none),
  (⟨some 125, .pick (.tmp 116) (.const (.bool true)) (.tmp 124), none⟩, none),
  (⟨some 126, .mv (.tmp 125), none⟩, none),
  (⟨some 127, .fieldAddr 0 (.tmp 15), some (126, false)⟩, none),
  (⟨some 128, .load false [.int .i64] (.tmp 127), some (126, false)⟩, none),
  (⟨some 129, .fieldAddr 0 (.tmp 9), some (126, false)⟩, none),
  (⟨some 130, .load false [.int .i64] (.tmp 129), some (126, false)⟩, none),
  (⟨some 131, .fieldAddr 0 (.tmp 13), some (126, false)⟩, none),
  (⟨some 132, .load false [.int .i64] (.tmp 131), some (126, false)⟩, none),
  (⟨some 133, .bin .add (.tmp 130) (.tmp 132), some (126, false)⟩, none),
  (⟨some 134, .bin .gtr (.tmp 128) (.tmp 133), some (126, false)⟩, none),
  (⟨some 135, .pick (.tmp 126) (.const (.bool true)) (.tmp 134), none⟩, none)]
def o9_23 : List AOper := [⟨some 8, .mv (.const (.bool false)), none⟩]
def c9_21 : ACode := .cond (.tmp 135) (.seq (.ops o9_23) (.ret)) (.skip)
def o9_27 : List (AOper × Option Nat) := [(⟨some 137, .load true [.int .i64, .int .i64, .slice] (.tmp 4), none⟩, none),
  (⟨some 138, .call false (.func 42) [.tmp 137] [(true, [.int .i64, .int .i64, .slice])] true, none⟩, none),
  (⟨some 139, .load true [.int .i64, .int .i64, .slice] (.tmp 4), none⟩, none),
  (⟨some 140, .call false (.func 42) [.tmp 139] [(true, [.int .i64, .int .i64, .slice])] true, none⟩, none),
  (⟨some 141, .load true [.int .i64, .int .i64, .slice] (.tmp 5), none⟩, none),
  (⟨some 142, .call false (.func 42) [.tmp 141] [(true, [.int .i64, .int .i64, .slice])] true, none⟩, none),
  (⟨some 143, .call false (.func 44) [.tmp 140, .tmp 142] [(false, [.slice])] true, none⟩, none),
  (⟨some 144, .load true [.int .i64, .int .i64, .slice] (.tmp 5), none⟩, none),
  (⟨some 145, .call false (.func 42) [.tmp 144] [(true, [.int .i64, .int .i64, .slice])] true, none⟩, none),
  (⟨some 146, .call false (.func 46) [.tmp 138, .tmp 143, .tmp 145] [(true, [.int .i64, .int .i64, .slice]), (false, [.bool])] false, none⟩, none),
  (⟨some 136, .mv (.tmp 146), none⟩, none),
  (⟨some 147, .extract (.tmp 136) 0, none⟩, none),
  (⟨some 148, .extract (.tmp 136) 1, none⟩, none),
  (⟨some 17, .nilCheck (.tmp 17), none⟩, none),
  (⟨none, .store 3 (.tmp 17) (.tmp 147), none⟩, none),
  (⟨some 18, .mv (.tmp 148), none⟩, none)]
def f9_27 : List AOper := [⟨some 17, .alloc [.int .i64 0, .int .i64 0, .slice none 0 0], none⟩]
def o9_29 : List (AOper × Option Nat) := [(⟨some 150, .load true [.int .i64, .int .i64, .slice] (.tmp 4), none⟩, none),
  (⟨some 151, .call false (.func 42) [.tmp 150] [(true, [.int .i64, .int .i64, .slice])] true, none⟩, none),
  (⟨some 152, .load true [.int .i64, .int .i64, .slice] (.tmp 5), none⟩, none),
  (⟨some 153, .call false (.func 42) [.tmp 152] [(true, [.int .i64, .int .i64, .slice])] true, none⟩, none),
  (⟨some 154, .call false (.func 46) [.tmp 151, .const (.slice none 0 0), .tmp 153] [(true, [.int .i64, .int .i64, .slice]), (false, [.bool])] false, none⟩, none),
  (⟨some 149, .mv (.tmp 154), none⟩, none),
  (⟨some 155, .extract (.tmp 149) 0, none⟩, none),
  (⟨some 156, .extract (.tmp 149) 1, none⟩, none),
  (⟨some 19, .nilCheck (.tmp 19), none⟩, none),
  (⟨none, .store 3 (.tmp 19) (.tmp 155), none⟩, none),
  (⟨some 20, .mv (.tmp 156), none⟩, none)]
def f9_29 : List AOper := [⟨some 19, .alloc [.int .i64 0, .int .i64 0, .slice none 0 0], none⟩]
def o9_31 : List (AOper × Option Nat) := [(⟨some 158, .load true [.int .i64, .int .i64, .slice] (.tmp 4), none⟩, none),
  (⟨some 159, .call false (.func 42) [.tmp 158] [(true, [.int .i64, .int .i64, .slice])] true, none⟩, none),
  (⟨some 160, .load true [.int .i64, .int .i64, .slice] (.tmp 5), none⟩, none),
  (⟨some 161, .call false (.func 42) [.tmp 160] [(true, [.int .i64, .int .i64, .slice])] true, none⟩, none),
  (⟨some 162, .mv (.tmp 3), none⟩, none),
  (⟨some 163, .conv .i64 (.tmp 162), none⟩, none),
  (⟨some 164, .bin .rem (.tmp 163) (.const (.int .i64 1001)), none⟩, none),
  (⟨some 165, .call false (.func 48) [.tmp 159, .tmp 161, .tmp 164] [(true, [.int .i64, .int .i64, .slice]), (false, [.bool])] false, none⟩, none),
  (⟨some 157, .mv (.tmp 165), none⟩, none),
  (⟨some 166, .extract (.tmp 157) 0, none⟩, none),
  (⟨some 167, .extract (.tmp 157) 1, none⟩, none),
  (⟨some 21, .nilCheck (.tmp 21), none⟩, none),
  (⟨none, .store 3 (.tmp 21) (.tmp 166), none⟩, none),
  (⟨some 22, .mv (.tmp 167), none⟩, none)]
def f9_31 : List AOper := [⟨some 21, .alloc [.int .i64 0, .int .i64 0, .slice none 0 0], none⟩]
def o9_33 : List (AOper × Option Nat) := [(⟨some 169, .load true [.int .i64, .int .i64, .slice] (.tmp 4), none⟩, none),
  (⟨some 170, .call false (.func 42) [.tmp 169] [(true, [.int .i64, .int .i64, .slice])] true, none⟩, none),
  (⟨some 171, .load true [.int .i64, .int .i64, .slice] (.tmp 21), none⟩, none),
  (⟨some 172, .call false (.func 41) [.tmp 170, .tmp 171] [(true, [.int .i64, .int .i64, .int .i64, .int .i64]), (false, [.bool])] false, none⟩, none),
  (⟨some 168, .mv (.tmp 172), none⟩, none),
  (⟨some 173, .extract (.tmp 168) 0, none⟩, none),
  (⟨some 174, .extract (.tmp 168) 1, none⟩, none),
  (⟨some 23, .nilCheck (.tmp 23), none⟩, none),
  (⟨none, .store 4 (.tmp 23) (.tmp 173), none⟩, none),
  (⟨some 24, .mv (.tmp 174), none⟩, none)]
def f9_33 : List AOper := [⟨some 23, .alloc [.int .i64 0, .int .i64 0, .int .i64 0, .int .i64 0], none⟩]
def o9_35 : List (AOper × Option Nat) := [(⟨some 176, .load true [.int .i64, .int .i64, .slice] (.tmp 4), none⟩, none),
  (⟨some 177, .call false (.func 42) [.tmp 176] [(true, [.int .i64, .int .i64, .slice])] true, none⟩, none),
  (⟨some 178, .load true [.int .i64, .int .i64, .slice] (.tmp 5), none⟩, none),
  (⟨some 179, .call false (.func 42) [.tmp 178] [(true, [.int .i64, .int .i64, .slice])] true, none⟩, none),
  (⟨some 180, .call false (.func 48) [.tmp 177, .tmp 179, .const (.int .i64 0)] [(true, [.int .i64, .int .i64, .slice]), (false, [.bool])] false, none⟩, none),
  (⟨some 175, .mv (.tmp 180), none⟩, none),
  (⟨some 181, .extract (.tmp 175) 0, none⟩, none),
  (⟨some 182, .extract (.tmp 175) 1, none⟩, none),
  (⟨some 25, .nilCheck (.tmp 25), none⟩, none),
  (⟨none, .store 3 (.tmp 25) (.tmp 181), none⟩, none),
  (⟨some 26, .mv (.tmp 182), none⟩, none)]
def f9_35 : List AOper := [⟨some 25, .alloc [.int .i64 0, .int .i64 0, .slice none 0 0], none⟩]
def o9_37 : List (AOper × Option Nat) := [(⟨some 184, .load true [.int .i64, .int .i64, .slice] (.tmp 4), none⟩, none),
  (⟨some 185, .call false (.func 42) [.tmp 184] [(true, [.int .i64, .int .i64, .slice])] true, none⟩, none),
  (⟨some 186, .load true [.int .i64, .int .i64, .slice] (.tmp 5), none⟩, none),
  (⟨some 187, .call false (.func 42) [.tmp 186] [(true, [.int .i64, .int .i64, .slice])] true, none⟩, none),
  (⟨some 188, .call false (.func 48) [.tmp 185, .tmp 187, .const (.int .i64 1000)] [(true, [.int .i64, .int .i64, .slice]), (false, [.bool])] false, none⟩, none),
  (⟨some 183, .mv (.tmp 188), none⟩, none),
  (⟨some 189, .extract (.tmp 183) 0, none⟩, none),
  (⟨some 190, .extract (.tmp 183) 1, none⟩, none),
  (⟨some 27, .nilCheck (.tmp 27), none⟩, none),
  (⟨none, .store 3 (.tmp 27) (.tmp 189), none⟩, none),
  (⟨some 28, .mv (.tmp 190), none⟩, none)]
def f9_37 : List AOper := [⟨some 27, .alloc [.int .i64 0, .int .i64 0, .slice none 0 0], none⟩]
def o9_39 : List (AOper × Option Nat) := [(⟨some 191, .mv (.tmp 18), none⟩, none),
  (⟨some 192, .mv (.tmp 191), none⟩, none),
  (⟨some 193, .mv (.tmp 22), some (192, true)⟩, none),
  (⟨some 194, .pick (.tmp 192) (.tmp 193) (.const (.bool false)), none⟩, none),
  (⟨some 195, .mv (.tmp 194), none⟩, none),
  (⟨some 196, .load true [.int .i64, .int .i64, .slice] (.tmp 17), some (195, true)⟩, none),
  (⟨some 197, .call false (.func 50) [.tmp 196] [(true, [.int .i64, .int .i64, .slice])] true, some (195, true)⟩, none),
  (⟨some 198, .load true [.int .i64, .int .i64, .slice] (.tmp 5), some (195, true)⟩, none),
  (⟨some 199, .call false (.func 31) [.tmp 197, .tmp 198] [(false, [.bool])] true, some (195, true)⟩, none),
  (⟨some 200, .pick (.tmp 195) (.tmp 199) (.const (.bool false)), none⟩, none),
  (⟨some 201, .mv (.tmp 200), none⟩, none),
  (⟨some 202, .load true [.int .i64, .int .i64, .slice] (.tmp 19), some (201, true)⟩, none),
  (⟨some 203, .call false (.func 50) [.tmp 202] [(true, [.int .i64, .int .i64, .slice])] true, some (201, true)⟩, none),
  (⟨some 204, .load true [.int .i64, .int .i64, .slice] (.tmp 4), some (201, true)⟩, none),
  (⟨some 205, .call false (.func 31) [.tmp 203, .tmp 204] [(false, [.bool])] true, some (201, true)⟩, none),
  (⟨some 206, .pick (.tmp 201) (.tmp 205) (.const (.bool false)), none⟩, none),
  (⟨some 207, .mv (.tmp 206), none⟩, none),
  (⟨some 208, .load true [.int .i64, .int .i64, .slice] (.tmp 25), some (207, true)⟩, none),
  (⟨some 209, .call false (.func 50) [.tmp 208] [(true, [.int .i64, .int .i64, .slice])] true, some (207, true)⟩, none),
  (⟨some 210, .load true [.int .i64, .int .i64, .slice] (.tmp 4), some (207, true)⟩, none),
  (⟨some 211, .call false (.func 31) [.tmp 209, .tmp 210] [(false, [.bool])] true, some (207, true)⟩, none),
  (⟨some 212, .pick (.tmp 207) (.tmp 211) (.const (.bool false)), none⟩, none),
  (⟨some 213, .mv (.tmp 212), none⟩, none),
  (⟨some 214, .load true [.int .i64, .int .i64, .slice] (.tmp 27), some (213, true)⟩, none),
  (⟨some 215, .call false (.func 50) [.tmp 214] [(true, [.int .i64, .int .i64, .slice])] true, some (213, true)⟩, none),
  (⟨some 216, .load true [.int .i64, .int .i64, .slice] (.tmp 5), some (213, true)⟩, none),
  (⟨some 217, .call false (.func 31) [.tmp 215, .tmp 216] [(false, [.bool])] true, some (213, true)⟩, none),
  (⟨some 218, .pick (.tmp 213) (.tmp 217) (.const (.bool false)), none⟩, none),
  (⟨some 219, .mv (.tmp 218), none⟩, none),
  (⟨some 220, .fieldAddr 1 (.tmp 23), some (219, true)⟩, none),
  (⟨some 221, .load false [.int .i64] (.tmp 220), some (219, true)⟩, none),
  (⟨some 222, .fieldAddr 1 (.tmp 9), some (219, true)⟩, none),
  (⟨some 223, .load false [.int .i64] (.tmp 222), some (219, true)⟩, none),
  (⟨some 224, .bin .leq (.tmp 221) (.tmp 223), some (219, true)⟩, none),
  (⟨some 225, .pick (.tmp 219) (.tmp 224) (.const (.bool false)), none⟩, none),
  (⟨some 226, .mv (.tmp 225), none⟩, none),
  (⟨some 227, .fieldAddr 1 (.tmp 9), some (226, true)⟩, none),
  (⟨some 228, .load false [.int .i64] (.tmp 227), some (226, true)⟩, none),
  (⟨some 229, .fieldAddr 1 (.tmp 9), some (226, true)⟩, none),
  (⟨some 230, .load false [.int .i64] (.tmp 229), some (226, true)⟩, none),
  (⟨some 231, .bin .mul (.tmp 228) (.tmp 230), some (226, true)⟩, none),
  (⟨some 232, .fieldAddr 3 (.tmp 9), some (226, true)⟩, none),
  (⟨some 233, .load false [.int .i64] (.tmp 232), some (226, true)⟩, none),
  (⟨some 234, .bin .leq (.tmp 231) (.tmp 233), some (226, true)⟩, none),
  (⟨some 235, .pick (.tmp 226) (.tmp 234) (.const (.bool false)), none⟩, none),
  (⟨some 236, .mv (.tmp 235), none⟩, none),
  (⟨some 237, .fieldAddr 3 (.tmp 9), some (236, true)⟩, none),
  (⟨some 238, .load false [.int .i64] (.tmp 237), some (236, true)⟩, none),
  (⟨some 239, .fieldAddr 1 (.tmp 9), some (236, true)⟩, none),
  (⟨some 240, .load false [.int .i64] (.tmp 239), some (236, true)⟩, none),
  (⟨some 241, .fieldAddr 2 (.tmp 9), some (236, true)⟩, none),
  (⟨some 242, .load false [.int .i64] (.tmp 241), some (236, true)⟩, none),
  (⟨some 243, .bin .mul (.tmp 240) (.tmp 242), some (236, true)⟩, none),
  (⟨some 244, .bin .leq (.tmp 238) (.tmp 243), some (236, true)⟩, none),
  (⟨some 245, .pick (.tmp 236) (.tmp 244) (.const (.bool false)), none⟩, none),
  (⟨some 246, .mv (.tmp 245), none⟩, none),
  (⟨some 247, .load true [.int .i64, .int .i64, .int .i64, .int .i64] (.tmp 9), some (246, true)⟩, none),
  (⟨some 248, .fieldAddr 2 (.tmp 4), some (246, true)⟩, none),
  (⟨some 249, .load false [.slice] (.tmp 248), some (246, true)⟩, none),
  (⟨some 250, .len (.tmp 249), some (246, true)⟩, none),
  (⟨some 251, .call true (.func 51) [.tmp 247, .tmp 250] [(false, [.int .i64])] true, some (246, true)⟩, none),
  (⟨some 252, .fieldAddr 1 (.tmp 9), some (246, true)⟩, none),
  (⟨some 253, .load false [.int .i64] (.tmp 252), some (246, true)⟩, none),
  (⟨some 254, .bin .leq (.tmp 251) (.tmp 253), some (246, true)⟩, none),
  (⟨some 255, .pick (.tmp 246) (.tmp 254) (.const (.bool false)), none⟩, none),
  (⟨some 256, .mv (.tmp 255), none⟩, none),
  (⟨some 257, .call true (.func 40) [] [(false, [.bool])] true, some (256, true)⟩, none),
  (⟨some 258, .pick (.tmp 256) (.tmp 257) (.const (.bool false)), none⟩, none),
  (⟨some 8, .mv (.tmp 258), none⟩, none)]
def c9_38 : ACode := .seq (.draw [] 0 o9_39 [(7, 6), (13, 12), (19, 18), (25, 24)]) (.ret)
def c9_34 : ACode := .seq (.draw f9_35 0 o9_35 [(2, 1), (8, 1), (8, 3), (8, 4)]) (.seq (.draw f9_37 0 o9_37 [(2, 1), (8, 1), (8, 3), (8, 4)]) (.clear [0, 1, 2, 3, 6, 7, 8, 10, 11, 12, 13, 14, 15, 16, 20, 21, 24, 26, 28, 29, 30, 31, 32, 33, 34, 35, 36, 37, 38, 39, 40, 41, 42, 43, 44, 45, 46, 47, 48, 49, 50, 51, 52, 53, 54, 55, 56, 57, 58, 59, 60, 61, 62, 63, 64, 65, 66, 67, 68, 69, 70, 71, 72, 73, 74, 75, 76, 77, 78, 79, 80, 81, 82, 83, 84, 85, 86, 87, 88, 89, 90, 91, 92, 93, 94, 95, 96, 97, 98, 99, 100, 101, 102, 103, 104, 105, 106, 107, 108, 109, 110, 111, 112, 113, 114, 115, 116, 117, 118, 119, 120, 121, 122, 123, 124, 125, 126, 127, 128, 129, 130, 131, 132, 133, 134, 135, 136, 137, 138, 139, 140, 141, 142, 143, 144, 145, 146, 147, 148, 149, 150, 151, 152, 153, 154, 155, 156, 157, 158, 159, 160, 161, 162, 163, 164, 165, 166, 167, 168, 169, 170, 171, 172, 173, 174, 175, 176, 177, 178, 179, 180, 181, 182, 183, 184, 185, 186, 187, 188, 189, 190, 191, 192, 193, 194, 195, 196, 197, 198, 199, 200, 201, 202, 203, 204, 205, 206, 207, 208, 209, 210, 211, 212, 213, 214, 215, 216, 217, 218, 219, 220, 221, 222, 223, 224, 225, 226, 227, 228, 229, 230, 231, 232, 233, 234, 235, 236, 237, 238, 239, 240, 241, 242, 243, 244, 245, 246, 247, 248, 249, 250, 251, 252, 253, 254, 255, 256, 257, 258] c9_38))
def c9_30 : ACode := .seq (.draw f9_31 0 o9_31 [(2, 1), (11, 1), (11, 3), (11, 7)]) (.seq (.draw f9_33 0 o9_33 [(2, 1), (7, 1), (7, 3)]) (.clear [0, 1, 2, 3, 6, 7, 8, 10, 11, 12, 13, 14, 15, 16, 20, 21, 24, 25, 26, 27, 28, 29, 30, 31, 32, 33, 34, 35, 36, 37, 38, 39, 40, 41, 42, 43, 44, 45, 46, 47, 48, 49, 50, 51, 52, 53, 54, 55, 56, 57, 58, 59, 60, 61, 62, 63, 64, 65, 66, 67, 68, 69, 70, 71, 72, 73, 74, 75, 76, 77, 78, 79, 80, 81, 82, 83, 84, 85, 86, 87, 88, 89, 90, 91, 92, 93, 94, 95, 96, 97, 98, 99, 100, 101, 102, 103, 104, 105, 106, 107, 108, 109, 110, 111, 112, 113, 114, 115, 116, 117, 118, 119, 120, 121, 122, 123, 124, 125, 126, 127, 128, 129, 130, 131, 132, 133, 134, 135, 136, 137, 138, 139, 140, 141, 142, 143, 144, 145, 146, 147, 148, 149, 150, 151, 152, 153, 154, 155, 156, 157, 158, 159, 160, 161, 162, 163, 164, 165, 166, 167, 168, 169, 170, 171, 172, 173, 174, 175, 176, 177, 178, 179, 180, 181, 182, 183, 184, 185, 186, 187, 188, 189, 190, 191, 192, 193, 194, 195, 196, 197, 198, 199, 200, 201, 202, 203, 204, 205, 206, 207, 208, 209, 210, 211, 212, 213, 214, 215, 216, 217, 218, 219, 220, 221, 222, 223, 224, 225, 226, 227, 228, 229, 230, 231, 232, 233, 234, 235, 236, 237, 238, 239, 240, 241, 242, 243, 244, 245, 246, 247, 248, 249, 250, 251, 252, 253, 254, 255, 256, 257, 258] c9_34))
def c9_16 : ACode := .seq (.draw f9_17 0 o9_17 [(2, 1), (8, 1), (8, 3), (8, 4)]) (.seq (.seq (.draw [] 0 o9_20 [(20, 25)]) (.clear [0, 1, 2, 6, 7, 8, 10, 11, 12, 13, 14, 15, 16, 17, 18, 19, 20, 21, 22, 23, 24, 25, 26, 27, 28, 29, 30, 31, 32, 33, 34, 35, 36, 37, 38, 39, 40, 41, 42, 43, 44, 45, 46, 47, 48, 49, 50, 51, 52, 53, 54, 55, 56, 57, 58, 59, 60, 61, 62, 63, 64, 65, 66, 67, 68, 69, 70, 71, 72, 73, 74, 75, 76, 77, 78, 79, 80, 81, 82, 83, 84, 85, 86, 87, 88, 89, 90, 91, 92, 93, 94, 95, 96, 97, 98, 99, 100, 101, 102, 103, 104, 105, 106, 107, 108, 109, 110, 111, 112, 113, 114, 115, 116, 117, 118, 119, 120, 121, 122, 123, 124, 125, 126, 127, 128, 129, 130, 131, 132, 133, 134, 136, 137, 138, 139, 140, 141, 142, 143, 144, 145, 146, 147, 148, 149, 150, 151, 152, 153, 154, 155, 156, 157, 158, 159, 160, 161, 162, 163, 164, 165, 166, 167, 168, 169, 170, 171, 172, 173, 174, 175, 176, 177, 178, 179, 180, 181, 182, 183, 184, 185, 186, 187, 188, 189, 190, 191, 192, 193, 194, 195, 196, 197, 198, 199, 200, 201, 202, 203, 204, 205, 206, 207, 208, 209, 210, 211, 212, 213, 214, 215, 216, 217, 218, 219, 220, 221, 222, 223, 224, 225, 226, 227, 228, 229, 230, 231, 232, 233, 234, 235, 236, 237, 238, 239, 240, 241, 242, 243, 244, 245, 246, 247, 248, 249, 250, 251, 252, 253, 254, 255, 256, 257, 258] c9_21)) (.seq (.draw f9_27 0 o9_27 [(2, 1), (4, 1), (4, 3), (7, 1), (7, 3), (7, 5), (7, 6), (13, 1), (13, 3), (13, 5), (13, 6), (13, 8), (13, 9)]) (.seq (.draw f9_29 0 o9_29 [(2, 1), (8, 1), (8, 3), (8, 4)]) (.clear [0, 1, 2, 6, 7, 8, 10, 11, 12, 13, 14, 15, 16, 20, 21, 22, 23, 24, 25, 26, 27, 28, 29, 30, 31, 32, 33, 34, 35, 36, 37, 38, 39, 40, 41, 42, 43, 44, 45, 46, 47, 48, 49, 50, 51, 52, 53, 54, 55, 56, 57, 58, 59, 60, 61, 62, 63, 64, 65, 66, 67, 68, 69, 70, 71, 72, 73, 74, 75, 76, 77, 78, 79, 80, 81, 82, 83, 84, 85, 86, 87, 88, 89, 90, 91, 92, 93, 94, 95, 96, 97, 98, 99, 100, 101, 102, 103, 104, 105, 106, 107, 108, 109, 110, 111, 112, 113, 114, 115, 116, 117, 118, 119, 120, 121, 122, 123, 124, 125, 126, 127, 128, 129, 130, 131, 132, 133, 134, 135, 136, 137, 138, 139, 140, 141, 142, 143, 144, 145, 146, 147, 148, 149, 150, 151, 152, 153, 154, 155, 156, 157, 158, 159, 160, 161, 162, 163, 164, 165, 166, 167, 168, 169, 170, 171, 172, 173, 174, 175, 176, 177, 178, 179, 180, 181, 182, 183, 184, 185, 186, 187, 188, 189, 190, 191, 192, 193, 194, 195, 196, 197, 198, 199, 200, 201, 202, 203, 204, 205, 206, 207, 208, 209, 210, 211, 212, 213, 214, 215, 216, 217, 218, 219, 220, 221, 222, 223, 224, 225, 226, 227, 228, 229, 230, 231, 232, 233, 234, 235, 236, 237, 238, 239, 240, 241, 242, 243, 244, 245, 246, 247, 248, 249, 250, 251, 252, 253, 254, 255, 256, 257, 258] c9_30))))
def c9_12 : ACode := .seq (.draw f9_13 0 o9_13 [(2, 1), (8, 1), (8, 3), (8, 4)]) (.seq (.draw f9_15 0 o9_15 [(2, 1), (8, 1), (8, 3), (8, 4)]) (.clear [0, 1, 2, 7, 8, 15, 16, 17, 18, 19, 20, 21, 22, 23, 24, 25, 26, 27, 28, 29, 30, 31, 32, 33, 34, 35, 36, 37, 38, 39, 40, 41, 42, 43, 44, 45, 46, 47, 48, 49, 50, 51, 52, 53, 54, 55, 56, 57, 58, 59, 60, 61, 62, 63, 64, 65, 66, 67, 68, 69, 70, 71, 72, 73, 74, 75, 76, 77, 78, 79, 80, 81, 82, 83, 84, 85, 86, 87, 88, 89, 90, 91, 92, 93, 94, 95, 96, 97, 98, 99, 100, 101, 102, 103, 104, 105, 106, 107, 108, 109, 110, 111, 112, 113, 114, 115, 116, 117, 118, 119, 120, 121, 122, 123, 124, 125, 126, 127, 128, 129, 130, 131, 132, 133, 134, 135, 136, 137, 138, 139, 140, 141, 142, 143, 144, 145, 146, 147, 148, 149, 150, 151, 152, 153, 154, 155, 156, 157, 158, 159, 160, 161, 162, 163, 164, 165, 166, 167, 168, 169, 170, 171, 172, 173, 174, 175, 176, 177, 178, 179, 180, 181, 182, 183, 184, 185, 186, 187, 188, 189, 190, 191, 192, 193, 194, 195, 196, 197, 198, 199, 200, 201, 202, 203, 204, 205, 206, 207, 208, 209, 210, 211, 212, 213, 214, 215, 216, 217, 218, 219, 220, 221, 222, 223, 224, 225, 226, 227, 228, 229, 230, 231, 232, 233, 234, 235, 236, 237, 238, 239, 240, 241, 242, 243, 244, 245, 246, 247, 248, 249, 250, 251, 252, 253, 254, 255, 256, 257, 258] c9_16))
def c9_0 : ACode := .seq (.ops o9_1) (.seq (.seq (.ops o9_4) (.cond (.tmp 44) (.seq (.ops o9_7) (.ret)) (.skip))) (.seq (.draw f9_11 0 o9_11 [(2, 1), (8, 1), (8, 3), (8, 4)]) (.clear [0, 1, 2, 7, 8, 11, 12, 13, 14, 15, 16, 17, 18, 19, 20, 21, 22, 23, 24, 25, 26, 27, 28, 29, 30, 31, 32, 33, 34, 35, 36, 37, 38, 39, 40, 41, 42, 43, 44, 45, 46, 47, 48, 49, 50, 51, 52, 53, 54, 55, 56, 57, 58, 59, 60, 61, 62, 63, 64, 65, 66, 67, 68, 69, 70, 71, 72, 73, 74, 75, 76, 77, 78, 79, 80, 81, 82, 83, 84, 85, 86, 87, 88, 89, 90, 91, 92, 93, 94, 95, 96, 97, 98, 99, 100, 101, 102, 103, 104, 105, 106, 107, 108, 109, 110, 111, 112, 113, 114, 115, 116, 117, 118, 119, 120, 121, 122, 123, 124, 125, 126, 127, 128, 129, 130, 131, 132, 133, 134, 135, 136, 137, 138, 139, 140, 141, 142, 143, 144, 145, 146, 147, 148, 149, 150, 151, 152, 153, 154, 155, 156, 157, 158, 159, 160, 161, 162, 163, 164, 165, 166, 167, 168, 169, 170, 171, 172, 173, 174, 175, 176, 177, 178, 179, 180, 181, 182, 183, 184, 185, 186, 187, 188, 189, 190, 191, 192, 193, 194, 195, 196, 197, 198, 199, 200, 201, 202, 203, 204, 205, 206, 207, 208, 209, 210, 211, 212, 213, 214, 215, 216, 217, 218, 219, 220, 221, 222, 223, 224, 225, 226, 227, 228, 229, 230, 231, 232, 233, 234, 235, 236, 237, 238, 239, 240, 241, 242, 243, 244, 245, 246, 247, 248, 249, 250, 251, 252, 253, 254, 255, 256, 257, 258] c9_12)))
def a9 : AFun := ⟨259, [.tmp 8], c9_0⟩
theorem ok9 : OkFun Try.prog 9 a9 := ⟨Try.f9, Try.f9.body.getD .skip, Try.func9, by kernel_rfl, by kernel_rfl, by kernel_rfl, by kernel_rfl, by kernel_rfl⟩
/-! #### skylightlaw35.awake -/
def o10_1 : List AOper := [⟨some 0, .mv (.const (.bool false)), none⟩]
def o10_3 : List AOper := [⟨some 7, .call false (.func 12) [.const (.int .i64 1)] [(false, [.ptr])] true, none⟩,
  ⟨some 1, .mv (.tmp 7), none⟩]
def o10_5 : List AOper := [⟨some 8, .call false (.func 16) [.const (.int .i64 5), .const (.int .i64 2)] [(false, [.ptr])] true, none⟩,
  ⟨some 9, .call false (.func 16) [.const (.int .i64 5), .const (.int .i64 2)] [(false, [.ptr])] true, none⟩,
  ⟨some 2, .mv (.tmp 8), none⟩,
  ⟨some 3, .mv (.tmp 9), none⟩]
def o10_8 : List AOper := [⟨some 10, .mv (.tmp 2), none⟩,
  ⟨some 11, .mv (.tmp 1), none⟩,
  ⟨some 12, .call false (.func 17) [.tmp 10, .tmp 11] [(false, [.bool])] true, none⟩,
  ⟨some 13, .un .not (.tmp 12), none⟩,
  ⟨some 14, .mv (.tmp 13), none⟩,
  ⟨some 15, .mv (.tmp 3), some (14, false)⟩,
  ⟨some 16, .mv (.tmp 1), some (14, false)⟩,
  ⟨some 17, .call false (.func 17) [.tmp 15, .tmp 16] [(false, [.bool])] true, some (14, false)⟩,
  ⟨some 18, .un .not (.tmp 17), some (14, false)⟩,
  ⟨some 19, .pick (.tmp 14) (.const (.bool true)) (.tmp 18), none⟩,
  ⟨some 20, .mv (.tmp 19), none⟩,
  ⟨some 21, .mv (.tmp 2), some (20, false)⟩,
  ⟨some 22, .mv (.tmp 1), some (20, false)⟩,
  ⟨some 23, .call false (.func 17) [.tmp 21, .tmp 22] [(false, [.bool])] true, some (20, false)⟩,
  ⟨some 24, .un .not (.tmp 23), some (20, false)⟩,
  ⟨some 25, .pick (.tmp 20) (.const (.bool true)) (.tmp 24), none⟩,
  ⟨some 26, .mv (.tmp 25), none⟩,
  ⟨some 27, .mv (.tmp 3), some (26, false)⟩,
  ⟨some 28, .mv (.tmp 1), some (26, false)⟩,
  ⟨some 29, .call false (.func 17) [.tmp 27, .tmp 28] [(false, [.bool])] true, some (26, false)⟩,
  ⟨some 30, .un .not (.tmp 29), some (26, false)⟩,
  ⟨some 31, .pick (.tmp 26) (.const (.bool true)) (.tmp 30), none⟩,
  ⟨some 32, .mv (.tmp 31), none⟩,
  ⟨some 33, .mv (.tmp 3), some (32, false)⟩,
  ⟨some 34, .call false (.func 20) [.tmp 33] [(false, [.int .i64])] true, some (32, false)⟩,
  ⟨some 35, .bin .neq (.tmp 34) (.const (.int .i64 1)), some (32, false)⟩,
  ⟨some 36, .pick (.tmp 32) (.const (.bool true)) (.tmp 35), none⟩,
  ⟨some 37, .mv (.tmp 36), none⟩,
  ⟨some 38, .mv (.tmp 3), some (37, false)⟩,
  ⟨some 39, .call false (.func 19) [.tmp 38] [(false, [.bool])] true, some (37, false)⟩,
  ⟨some 40, .pick (.tmp 37) (.const (.bool true)) (.tmp 39), none⟩]
def o10_11 : List AOper := [⟨some 0, .mv (.const (.bool false)), none⟩]
def o10_15 : List AOper := [⟨some 41, .mv (.tmp 3), none⟩,
  ⟨some 42, .mv (.tmp 1), none⟩,
  ⟨some 43, .call false (.func 17) [.tmp 41, .tmp 42] [(false, [.bool])] true, none⟩]
def o10_17 : List AOper := [⟨some 44, .mv (.tmp 3), none⟩,
  ⟨some 45, .mv (.tmp 1), none⟩,
  ⟨some 46, .call false (.func 17) [.tmp 44, .tmp 45] [(false, [.bool])] true, none⟩]
def o10_19 : List AOper := [⟨some 48, .mv (.tmp 3), none⟩,
  ⟨some 49, .call false (.func 21) [.tmp 48] [(false, [.int .i64]), (false, [.int .i64]), (false, [.bool])] false, none⟩,
  ⟨some 47, .mv (.tmp 49), none⟩,
  ⟨some 50, .extract (.tmp 47) 0, none⟩,
  ⟨some 51, .extract (.tmp 47) 1, none⟩,
  ⟨some 52, .extract (.tmp 47) 2, none⟩,
  ⟨some 4, .mv (.tmp 50), none⟩,
  ⟨some 5, .mv (.tmp 51), none⟩,
  ⟨some 6, .mv (.tmp 52), none⟩]
def o10_21 : List AOper := [⟨some 53, .mv (.tmp 2), none⟩,
  ⟨some 54, .call false (.func 19) [.tmp 53] [(false, [.bool])] true, none⟩,
  ⟨some 55, .mv (.tmp 54), none⟩,
  ⟨some 56, .mv (.tmp 6), some (55, true)⟩,
  ⟨some 57, .pick (.tmp 55) (.tmp 56) (.const (.bool false)), none⟩,
  ⟨some 58, .mv (.tmp 57), none⟩,
  ⟨some 59, .mv (.tmp 4), some (58, true)⟩,
  ⟨some 60, .bin .eql (.tmp 59) (.const (.int .i64 2)), some (58, true)⟩,
  ⟨some 61, .pick (.tmp 58) (.tmp 60) (.const (.bool false)), none⟩,
  ⟨some 62, .mv (.tmp 61), none⟩,
  ⟨some 63, .mv (.tmp 5), some (62, true)⟩,
  ⟨some 64, .bin .eql (.tmp 63) (.const (.int .i64 4)), some (62, true)⟩,
  ⟨some 65, .pick (.tmp 62) (.tmp 64) (.const (.bool false)), none⟩,
  ⟨some 66, .mv (.tmp 65), none⟩,
  ⟨some 67, .call true (.func 23) [.const (.int .i64 5), .const (.int .i64 2)] [(false, [.int .i64])] true, some (66, true)⟩,
  ⟨some 68, .bin .eql (.tmp 67) (.const (.int .i64 3)), some (66, true)⟩,
  ⟨some 69, .pick (.tmp 66) (.tmp 68) (.const (.bool false)), none⟩,
  ⟨some 70, .mv (.tmp 69), none⟩,
  ⟨some 71, .call false (.func 16) [.const (.int .i64 (-1)), .const (.int .i64 1)] [(false, [.ptr])] true, some (70, true)⟩,
  ⟨some 72, .eqNil 0 false (.tmp 71), some (70, true)⟩,
  ⟨some 73, .pick (.tmp 70) (.tmp 72) (.const (.bool false)), none⟩,
  ⟨some 0, .mv (.tmp 73), none⟩]
def c10_0 : ACode := .seq (.ops o10_1) (.seq (.ops o10_3) (.seq (.ops o10_5) (.seq (.seq (.ops o10_8) (.cond (.tmp 40) (.seq (.ops o10_11) (.ret)) (.skip))) (.seq (.ops o10_15) (.seq (.ops o10_17) (.seq (.ops o10_19) (.seq (.ops o10_21) (.ret))))))))
def a10 : AFun := ⟨74, [.tmp 0], c10_0⟩
theorem ok10 : OkFun Try.prog 10 a10 := ⟨Try.f10, Try.f10.body.getD .skip, Try.func10, by kernel_rfl, by kernel_rfl, by kernel_rfl, by kernel_rfl, by kernel_rfl⟩
/-! #### skylightref30.New -/
def o11_1 : List AOper := [⟨some 2, .alloc [.slice none 0 0, .int .i64 0, .int .i64 0], none⟩,
  ⟨some 3, .mv (.const (.bool false)), none⟩]
def o11_4 : List AOper := [⟨some 4, .mv (.tmp 0), none⟩,
  ⟨some 5, .bin .lss (.tmp 4) (.const (.int .i64 0)), none⟩,
  ⟨some 6, .mv (.tmp 5), none⟩,
  ⟨some 7, .mv (.tmp 0), some (6, false)⟩,
  ⟨some 8, .bin .gtr (.tmp 7) (.const (.int .i64 262144)), some (6, false)⟩,
  ⟨some 9, .pick (.tmp 6) (.const (.bool true)) (.tmp 8), none⟩]
def o11_7 : List AOper := [⟨some 10, .build [.slice none 0 0, .int .i64 0, .int .i64 0] [], none⟩,
  ⟨none, .store 3 (.tmp 2) (.tmp 10), none⟩,
  ⟨some 3, .mv (.const (.bool false)), none⟩]
def o11_11 : List AOper := [⟨some 11, .mv (.tmp 0), none⟩,
  ⟨some 12, .makeSlice 1 8 [.int .u64 0] (.tmp 11) (.tmp 11), none⟩,
  ⟨some 13, .build [.slice none 0 0, .int .i64 0, .int .i64 0] [(0, 1, .tmp 12)], none⟩,
  ⟨none, .store 3 (.tmp 2) (.tmp 13), none⟩,
  ⟨some 3, .mv (.const (.bool true)), none⟩]
def c11_0 : ACode := .seq (.ops o11_1) (.seq (.seq (.ops o11_4) (.cond (.tmp 9) (.seq (.ops o11_7) (.ret)) (.skip))) (.seq (.ops o11_11) (.ret)))
def a11 : AFun := ⟨14, [.cell true [.slice, .int .i64, .int .i64] 2, .tmp 3], c11_0⟩
theorem ok11 : OkFun Try.prog 11 a11 := ⟨Try.f11, Try.f11.body.getD .skip, Try.func11, by kernel_rfl, by kernel_rfl, by kernel_rfl, by kernel_rfl, by kernel_rfl⟩
/-! #### cell.New -/
def o12_1 : List AOper := [⟨some 2, .mv (.const (.pointer none)), none⟩]
def o12_4 : List AOper := [⟨some 3, .mv (.tmp 0), none⟩,
  ⟨some 4, .bin .lss (.tmp 3) (.const (.int .i64 0)), none⟩,
  ⟨some 5, .mv (.tmp 4), none⟩,
  ⟨some 6, .mv (.tmp 0), some (5, false)⟩,
  ⟨some 7, .bin .gtr (.tmp 6) (.const (.int .i64 262144)), some (5, false)⟩,
  ⟨some 8, .pick (.tmp 5) (.const (.bool true)) (.tmp 7), none⟩]
def o12_7 : List AOper := [⟨some 2, .mv (.const (.pointer none)), none⟩]
def o12_11 : List AOper := [⟨some 9, .mv (.tmp 0), none⟩,
  ⟨some 10, .makeSlice 1 8 [.int .u64 0] (.tmp 9) (.tmp 9), none⟩,
  ⟨some 11, .build [.bool false, .slice none 0 0, .int .i64 0, .int .i64 0] [(0, 1, .const (.bool true)), (1, 1, .tmp 10)], none⟩,
  ⟨some 12, .box (.tmp 11), none⟩,
  ⟨some 2, .mv (.tmp 12), none⟩]
def c12_0 : ACode := .seq (.ops o12_1) (.seq (.seq (.ops o12_4) (.cond (.tmp 8) (.seq (.ops o12_7) (.ret)) (.skip))) (.seq (.ops o12_11) (.ret)))
def a12 : AFun := ⟨13, [.tmp 2], c12_0⟩
theorem ok12 : OkFun Try.prog 12 a12 := ⟨Try.f12, Try.f12.body.getD .skip, Try.func12, by kernel_rfl, by kernel_rfl, by kernel_rfl, by kernel_rfl, by kernel_rfl⟩
/-! #### skylightref30.Memory.Cas -/
def o13_1 : List AOper := [⟨some 8, .mv (.const (.bool false)), none⟩]
def o13_3 : List AOper := [⟨some 9, .mv (.tmp 0), none⟩,
  ⟨some 10, .nilCheck (.tmp 9), none⟩,
  ⟨some 11, .fieldAddr 1 (.tmp 10), none⟩,
  ⟨some 12, .load false [.int .i64] (.tmp 11), none⟩,
  ⟨some 13, .bin .add (.tmp 12) (.const (.int .i64 1)), none⟩,
  ⟨some 14, .nilCheck (.tmp 9), none⟩,
  ⟨some 15, .fieldAddr 1 (.tmp 14), none⟩,
  ⟨none, .store 1 (.tmp 15) (.tmp 13), none⟩]
def o13_6 : List AOper := [⟨some 16, .mv (.tmp 1), none⟩,
  ⟨some 17, .bin .lss (.tmp 16) (.const (.int .i64 0)), none⟩,
  ⟨some 18, .mv (.tmp 17), none⟩,
  ⟨some 19, .mv (.tmp 1), some (18, false)⟩,
  ⟨some 20, .mv (.tmp 0), some (18, false)⟩,
  ⟨some 21, .nilCheck (.tmp 20), some (18, false)⟩,
  ⟨some 22, .fieldAddr 0 (.tmp 21), some (18, false)⟩,
  ⟨some 23, .load false [.slice] (.tmp 22), some (18, false)⟩,
  ⟨some 24, .len (.tmp 23), some (18, false)⟩,
  ⟨some 25, .bin .geq (.tmp 19) (.tmp 24), some (18, false)⟩,
  ⟨some 26, .pick (.tmp 18) (.const (.bool true)) (.tmp 25), none⟩,
  ⟨some 27, .mv (.tmp 26), none⟩,
  ⟨some 28, .mv (.tmp 0), some (27, false)⟩,
  ⟨some 29, .nilCheck (.tmp 28), some (27, false)⟩,
  ⟨some 30, .fieldAddr 0 (.tmp 29), some (27, false)⟩,
  ⟨some 31, .load false [.slice] (.tmp 30), some (27, false)⟩,
  ⟨some 32, .mv (.tmp 1), some (27, false)⟩,
  ⟨some 33, .indexAddr 1 (.tmp 31) (.tmp 32), some (27, false)⟩,
  ⟨some 34, .load false [.int .u64] (.tmp 33), some (27, false)⟩,
  ⟨some 35, .mv (.tmp 2), some (27, false)⟩,
  ⟨some 36, .bin .neq (.tmp 34) (.tmp 35), some (27, false)⟩,
  ⟨some 37, .pick (.tmp 27) (.const (.bool true)) (.tmp 36), none⟩]
def o13_9 : List AOper := [⟨some 8, .mv (.const (.bool false)), none⟩]
def o13_13 : List AOper := [⟨some 38, .mv (.tmp 0), none⟩,
  ⟨some 39, .nilCheck (.tmp 38), none⟩,
  ⟨some 40, .fieldAddr 0 (.tmp 39), none⟩,
  ⟨some 41, .load false [.slice] (.tmp 40), none⟩,
  ⟨some 42, .mv (.tmp 1), none⟩,
  ⟨some 43, .mv (.tmp 3), none⟩,
  ⟨some 44, .indexAddr 1 (.tmp 41) (.tmp 42), none⟩,
  ⟨none, .store 1 (.tmp 44) (.tmp 43), none⟩]
def o13_15 : List AOper := [⟨some 45, .mv (.tmp 0), none⟩,
  ⟨some 46, .nilCheck (.tmp 45), none⟩,
  ⟨some 47, .fieldAddr 2 (.tmp 46), none⟩,
  ⟨some 48, .load false [.int .i64] (.tmp 47), none⟩,
  ⟨some 49, .bin .add (.tmp 48) (.const (.int .i64 1)), none⟩,
  ⟨some 50, .nilCheck (.tmp 45), none⟩,
  ⟨some 51, .fieldAddr 2 (.tmp 50), none⟩,
  ⟨none, .store 1 (.tmp 51) (.tmp 49), none⟩]
def o13_17 : List AOper := [⟨some 8, .mv (.const (.bool true)), none⟩]
def c13_0 : ACode := .seq (.ops o13_1) (.seq (.ops o13_3) (.seq (.seq (.ops o13_6) (.cond (.tmp 37) (.seq (.ops o13_9) (.ret)) (.skip))) (.seq (.ops o13_13) (.seq (.ops o13_15) (.seq (.ops o13_17) (.ret))))))
def a13 : AFun := ⟨52, [.tmp 8], c13_0⟩
theorem ok13 : OkFun Try.prog 13 a13 := ⟨Try.f13, Try.f13.body.getD .skip, Try.func13, by kernel_rfl, by kernel_rfl, by kernel_rfl, by kernel_rfl, by kernel_rfl⟩
/-! #### cell.Memory.Cas -/
def o14_1 : List AOper := [⟨some 8, .mv (.const (.bool false)), none⟩]
def o14_3 : List AOper := [⟨some 10, .mv (.tmp 0), none⟩,
  ⟨some 11, .mv (.tmp 1), none⟩,
  ⟨some 12, .call false (.func 54) [.tmp 10, .tmp 11] [(false, [.ptr])] true, none⟩,
  ⟨some 9, .mv (.tmp 12), none⟩]
def o14_6 : List AOper := [⟨some 13, .mv (.tmp 9), none⟩,
  ⟨some 14, .eqNil 0 false (.tmp 13), none⟩,
  ⟨some 15, .mv (.tmp 14), none⟩,
  ⟨some 16, .mv (.tmp 9), some (15, false)⟩,
  ⟨some 17, .nilCheck (.tmp 16), some (15, false)⟩,
  ⟨some 18, .load false [.int .u64] (.tmp 17), some (15, false)⟩,
  ⟨some 19, .mv (.tmp 2), some (15, false)⟩,
  ⟨some 20, .bin .neq (.tmp 18) (.tmp 19), some (15, false)⟩,
  ⟨some 21, .pick (.tmp 15) (.const (.bool true)) (.tmp 20), none⟩]
def o14_9 : List AOper := [⟨some 8, .mv (.const (.bool false)), none⟩]
def o14_13 : List AOper := [⟨some 22, .mv (.tmp 9), none⟩,
  ⟨some 23, .mv (.tmp 3), none⟩,
  ⟨some 24, .nilCheck (.tmp 22), none⟩,
  ⟨none, .store 1 (.tmp 24) (.tmp 23), none⟩]
def o14_15 : List AOper := [⟨some 25, .mv (.tmp 0), none⟩,
  ⟨some 26, .nilCheck (.tmp 25), none⟩,
  ⟨some 27, .fieldAddr 3 (.tmp 26), none⟩,
  ⟨some 28, .load false [.int .i64] (.tmp 27), none⟩,
  ⟨some 29, .bin .add (.tmp 28) (.const (.int .i64 1)), none⟩,
  ⟨some 30, .nilCheck (.tmp 25), none⟩,
  ⟨some 31, .fieldAddr 3 (.tmp 30), none⟩,
  ⟨none, .store 1 (.tmp 31) (.tmp 29), none⟩]
def o14_17 : List AOper := [⟨some 8, .mv (.const (.bool true)), none⟩]
def c14_0 : ACode := .seq (.ops o14_1) (.seq (.ops o14_3) (.seq (.seq (.ops o14_6) (.cond (.tmp 21) (.seq (.ops o14_9) (.ret)) (.skip))) (.seq (.ops o14_13) (.seq (.ops o14_15) (.seq (.ops o14_17) (.ret))))))
def a14 : AFun := ⟨32, [.tmp 8], c14_0⟩
theorem ok14 : OkFun Try.prog 14 a14 := ⟨Try.f14, Try.f14.body.getD .skip, Try.func14, by kernel_rfl, by kernel_rfl, by kernel_rfl, by kernel_rfl, by kernel_rfl⟩
/-! #### skylightref35.New -/
def o15_1 : List AOper := [⟨some 4, .alloc [.int .i64 0, .int .i64 0, .int .i64 0, .bool false, .bool false, .int .u64 0, .int .i64 0, .int .i64 0], none⟩,
  ⟨some 5, .mv (.const (.bool false)), none⟩]
def o15_4 : List AOper := [⟨some 6, .mv (.tmp 0), none⟩,
  ⟨some 7, .bin .lss (.tmp 6) (.const (.int .i64 0)), none⟩,
  ⟨some 8, .mv (.tmp 7), none⟩,
  ⟨some 9, .mv (.tmp 0), some (8, false)⟩,
  ⟨some 10, .bin .gtr (.tmp 9) (.const (.int .i64 1048576)), some (8, false)⟩,
  ⟨some 11, .pick (.tmp 8) (.const (.bool true)) (.tmp 10), none⟩,
  ⟨some 12, .mv (.tmp 11), none⟩,
  ⟨some 13, .mv (.tmp 1), some (12, false)⟩,
  ⟨some 14, .bin .lss (.tmp 13) (.const (.int .i64 1)), some (12, false)⟩,
  ⟨some 15, .pick (.tmp 12) (.const (.bool true)) (.tmp 14), none⟩,
  ⟨some 16, .mv (.tmp 15), none⟩,
  ⟨some 17, .mv (.tmp 1), some (16, false)⟩,
  ⟨some 18, .bin .gtr (.tmp 17) (.const (.int .i64 65536)), some (16, false)⟩,
  ⟨some 19, .pick (.tmp 16) (.const (.bool true)) (.tmp 18), none⟩]
def o15_7 : List AOper := [⟨some 20, .build [.int .i64 0, .int .i64 0, .int .i64 0, .bool false, .bool false, .int .u64 0, .int .i64 0, .int .i64 0] [], none⟩,
  ⟨none, .store 8 (.tmp 4) (.tmp 20), none⟩,
  ⟨some 5, .mv (.const (.bool false)), none⟩]
def o15_11 : List AOper := [⟨some 21, .mv (.tmp 0), none⟩,
  ⟨some 22, .mv (.tmp 1), none⟩,
  ⟨some 23, .build [.int .i64 0, .int .i64 0, .int .i64 0, .bool false, .bool false, .int .u64 0, .int .i64 0, .int .i64 0] [(0, 1, .tmp 21), (1, 1, .tmp 22)], none⟩,
  ⟨none, .store 8 (.tmp 4) (.tmp 23), none⟩,
  ⟨some 5, .mv (.const (.bool true)), none⟩]
def c15_0 : ACode := .seq (.ops o15_1) (.seq (.seq (.ops o15_4) (.cond (.tmp 19) (.seq (.ops o15_7) (.ret)) (.skip))) (.seq (.ops o15_11) (.ret)))
def a15 : AFun := ⟨24, [.cell true [.int .i64, .int .i64, .int .i64, .bool, .bool, .int .u64, .int .i64, .int .i64] 4, .tmp 5], c15_0⟩
theorem ok15 : OkFun Try.prog 15 a15 := ⟨Try.f15, Try.f15.body.getD .skip, Try.func15, by kernel_rfl, by kernel_rfl, by kernel_rfl, by kernel_rfl, by kernel_rfl⟩
/-! #### batch.New -/
def o16_1 : List AOper := [⟨some 4, .mv (.const (.pointer none)), none⟩]
def o16_4 : List AOper := [⟨some 5, .mv (.tmp 0), none⟩,
  ⟨some 6, .bin .lss (.tmp 5) (.const (.int .i64 0)), none⟩,
  ⟨some 7, .mv (.tmp 6), none⟩,
  ⟨some 8, .mv (.tmp 0), some (7, false)⟩,
  ⟨some 9, .bin .gtr (.tmp 8) (.const (.int .i64 1048576)), some (7, false)⟩,
  ⟨some 10, .pick (.tmp 7) (.const (.bool true)) (.tmp 9), none⟩,
  ⟨some 11, .mv (.tmp 10), none⟩,
  ⟨some 12, .mv (.tmp 1), some (11, false)⟩,
  ⟨some 13, .bin .lss (.tmp 12) (.const (.int .i64 1)), some (11, false)⟩,
  ⟨some 14, .pick (.tmp 11) (.const (.bool true)) (.tmp 13), none⟩,
  ⟨some 15, .mv (.tmp 14), none⟩,
  ⟨some 16, .mv (.tmp 1), some (15, false)⟩,
  ⟨some 17, .bin .gtr (.tmp 16) (.const (.int .i64 65536)), some (15, false)⟩,
  ⟨some 18, .pick (.tmp 15) (.const (.bool true)) (.tmp 17), none⟩]
def o16_7 : List AOper := [⟨some 4, .mv (.const (.pointer none)), none⟩]
def o16_11 : List AOper := [⟨some 19, .mv (.tmp 0), none⟩,
  ⟨some 20, .mv (.tmp 1), none⟩,
  ⟨some 21, .build [.int .i64 0, .int .i64 0, .nilFunc, .bool false, .int .u64 0, .int .i64 0, .int .i64 0, .int .i64 0] [(0, 1, .tmp 19), (1, 1, .tmp 20), (3, 1, .const (.bool true)), (2, 1, .func 55)], none⟩,
  ⟨some 22, .box (.tmp 21), none⟩,
  ⟨some 4, .mv (.tmp 22), none⟩]
def c16_0 : ACode := .seq (.ops o16_1) (.seq (.seq (.ops o16_4) (.cond (.tmp 18) (.seq (.ops o16_7) (.ret)) (.skip))) (.seq (.ops o16_11) (.ret)))
def a16 : AFun := ⟨23, [.tmp 4], c16_0⟩
theorem ok16 : OkFun Try.prog 16 a16 := ⟨Try.f16, Try.f16.body.getD .skip, Try.func16, by kernel_rfl, by kernel_rfl, by kernel_rfl, by kernel_rfl, by kernel_rfl⟩
/-! #### batch.Claim.Step -/
def o17_1 : List AOper := [⟨some 4, .mv (.const (.bool false)), none⟩]
def o17_4 : List AOper := [⟨some 5, .mv (.tmp 0), none⟩,
  ⟨some 6, .call false (.func 56) [.tmp 5] [(false, [.bool])] true, none⟩,
  ⟨some 7, .un .not (.tmp 6), none⟩,
  ⟨some 8, .mv (.tmp 7), none⟩,
  ⟨some 9, .mv (.tmp 1), some (8, false)⟩,
  ⟨some 10, .call false (.func 57) [.tmp 9] [(false, [.int .i64])] true, some (8, false)⟩,
  ⟨some 11, .bin .eql (.tmp 10) (.const (.int .i64 0)), some (8, false)⟩,
  ⟨some 12, .pick (.tmp 8) (.const (.bool true)) (.tmp 11), none⟩]
def o17_7 : List AOper := [⟨some 4, .mv (.const (.bool false)), none⟩]
def o17_11 : List AOper := [⟨some 13, .mv (.tmp 0), none⟩,
  ⟨some 14, .nilCheck (.tmp 13), none⟩,
  ⟨some 15, .fieldAddr 2 (.tmp 14), none⟩,
  ⟨some 16, .load false [.any] (.tmp 15), none⟩,
  ⟨some 17, .mv (.tmp 0), none⟩,
  ⟨some 18, .mv (.tmp 1), none⟩,
  ⟨some 19, .call false (.tmp 16) [.tmp 17, .tmp 18] [] false, none⟩]
def o17_13 : List AOper := [⟨some 4, .mv (.const (.bool true)), none⟩]
def c17_0 : ACode := .seq (.ops o17_1) (.seq (.seq (.ops o17_4) (.cond (.tmp 12) (.seq (.ops o17_7) (.ret)) (.skip))) (.seq (.ops o17_11) (.seq (.ops o17_13) (.ret))))
def a17 : AFun := ⟨20, [.tmp 4], c17_0⟩
theorem ok17 : OkFun Try.prog 17 a17 := ⟨Try.f17, Try.f17.body.getD .skip, Try.func17, by kernel_rfl, by kernel_rfl, by kernel_rfl, by kernel_rfl, by kernel_rfl⟩
/-! #### skylightref35.Claim.Step -/
def o18_1 : List AOper := [⟨some 4, .mv (.const (.bool false)), none⟩]
def o18_4 : List AOper := [⟨some 8, .mv (.tmp 0), none⟩,
  ⟨some 9, .nilCheck (.tmp 8), none⟩,
  ⟨some 10, .fieldAddr 1 (.tmp 9), none⟩,
  ⟨some 11, .load false [.int .i64] (.tmp 10), none⟩,
  ⟨some 12, .bin .eql (.tmp 11) (.const (.int .i64 0)), none⟩,
  ⟨some 13, .mv (.tmp 12), none⟩,
  ⟨some 14, .mv (.tmp 0), some (13, false)⟩,
  ⟨some 15, .nilCheck (.tmp 14), some (13, false)⟩,
  ⟨some 16, .fieldAddr 4 (.tmp 15), some (13, false)⟩,
  ⟨some 17, .load false [.bool] (.tmp 16), some (13, false)⟩,
  ⟨some 18, .pick (.tmp 13) (.const (.bool true)) (.tmp 17), none⟩,
  ⟨some 19, .mv (.tmp 18), none⟩,
  ⟨some 20, .mv (.tmp 1), some (19, false)⟩,
  ⟨some 21, .nilCheck (.tmp 20), some (19, false)⟩,
  ⟨some 22, .fieldAddr 0 (.tmp 21), some (19, false)⟩,
  ⟨some 23, .load false [.slice] (.tmp 22), some (19, false)⟩,
  ⟨some 24, .len (.tmp 23), some (19, false)⟩,
  ⟨some 25, .bin .eql (.tmp 24) (.const (.int .i64 0)), some (19, false)⟩,
  ⟨some 26, .pick (.tmp 19) (.const (.bool true)) (.tmp 25), none⟩]
def o18_7 : List AOper := [⟨some 4, .mv (.const (.bool false)), none⟩]
def o18_12 : List AOper := [⟨some 27, .mv (.tmp 0), none⟩,
  ⟨some 28, .nilCheck (.tmp 27), none⟩,
  ⟨some 29, .fieldAddr 3 (.tmp 28), none⟩,
  ⟨some 30, .load false [.bool] (.tmp 29), none⟩,
  ⟨some 31, .un .not (.tmp 30), none⟩]
def o18_15 : List AOper := [⟨some 33, .mv (.tmp 1), none⟩,
  ⟨some 34, .call false (.func 58) [.tmp 33, .const (.int .i64 0)] [(false, [.int .u64]), (false, [.bool])] false, none⟩,
  ⟨some 32, .mv (.tmp 34), none⟩,
  ⟨some 35, .extract (.tmp 32) 0, none⟩,
  ⟨some 36, .extract (.tmp 32) 1, none⟩,
  ⟨some 5, .mv (.tmp 35), none⟩,
  ⟨some 6, .mv (.tmp 36), none⟩]
def o18_17 : List AOper := [⟨some 37, .mv (.tmp 0), none⟩,
  ⟨some 38, .mv (.tmp 5), none⟩,
  ⟨some 39, .nilCheck (.tmp 37), none⟩,
  ⟨some 40, .fieldAddr 5 (.tmp 39), none⟩,
  ⟨none, .store 1 (.tmp 40) (.tmp 38), none⟩]
def o18_19 : List (AOper × Option Nat) := [(⟨some 41, .mv (.tmp 0), none⟩, none),
  (⟨some 42, .mv (.tmp 0), none⟩, none),
  (⟨some 43, .nilCheck (.tmp 42), none⟩, none),
  (⟨some 44, .fieldAddr 5 (.tmp 43), none⟩, none),
  (⟨some 45, .load false [.int .u64] (.tmp 44), none⟩, none),
  (⟨some 46, .mv (.tmp 0), none⟩, none),
  (⟨some 47, .nilCheck (.tmp 46), none⟩, none),
  (⟨some 48, .fieldAddr 0 (.tmp 47), none⟩, none),
  (⟨some 49, .load false [.int .i64] (.tmp 48), none⟩, none),
  (⟨some 50, .conv .u64 (.tmp 49), none⟩, none),
  (⟨some 51, .bin .lss (.tmp 45) (.tmp 50), none⟩, none),
  (⟨some 52, .nilCheck (.tmp 41), none⟩, none),
  (⟨some 53, .fieldAddr 3 (.tmp 52), none⟩, none),
  (⟨none, .store 1 (.tmp 53) (.tmp 51), none⟩, none)]
def o18_21 : List AOper := [⟨some 54, .mv (.tmp 0), none⟩,
  ⟨some 55, .mv (.tmp 0), none⟩,
  ⟨some 56, .nilCheck (.tmp 55), none⟩,
  ⟨some 57, .fieldAddr 3 (.tmp 56), none⟩,
  ⟨some 58, .load false [.bool] (.tmp 57), none⟩,
  ⟨some 59, .un .not (.tmp 58), none⟩,
  ⟨some 60, .nilCheck (.tmp 54), none⟩,
  ⟨some 61, .fieldAddr 4 (.tmp 60), none⟩,
  ⟨none, .store 1 (.tmp 61) (.tmp 59), none⟩]
def o18_23 : List AOper := [⟨some 4, .mv (.const (.bool true)), none⟩]
def c18_22 : ACode := .seq (.ops o18_23) (.ret)
def o18_27 : List AOper := [⟨some 62, .mv (.tmp 0), none⟩,
  ⟨some 63, .nilCheck (.tmp 62), none⟩,
  ⟨some 64, .fieldAddr 3 (.tmp 63), none⟩,
  ⟨none, .store 1 (.tmp 64) (.const (.bool false)), none⟩]
def o18_29 : List (AOper × Option Nat) := [(⟨some 65, .mv (.tmp 0), none⟩, none),
  (⟨some 66, .nilCheck (.tmp 65), none⟩, none),
  (⟨some 67, .fieldAddr 0 (.tmp 66), none⟩, none),
  (⟨some 68, .load false [.int .i64] (.tmp 67), none⟩, none),
  (⟨some 69, .mv (.tmp 0), none⟩, none),
  (⟨some 70, .nilCheck (.tmp 69), none⟩, none),
  (⟨some 71, .fieldAddr 5 (.tmp 70), none⟩, none),
  (⟨some 72, .load false [.int .u64] (.tmp 71), none⟩, none),
  (⟨some 73, .conv .i64 (.tmp 72), none⟩, none),
  (⟨some 74, .mv (.tmp 0), none⟩, none),
  (⟨some 75, .nilCheck (.tmp 74), none⟩, none),
  (⟨some 76, .fieldAddr 1 (.tmp 75), none⟩, none),
  (⟨some 77, .load false [.int .i64] (.tmp 76), none⟩, none),
  (⟨some 78, .bin .add (.tmp 73) (.tmp 77), none⟩, none),
  (⟨some 79, .minmax false [.tmp 68, .tmp 78], none⟩, none),
  (⟨some 7, .mv (.tmp 79), none⟩, none)]
def o18_32 : List AOper := [⟨some 80, .mv (.tmp 1), none⟩,
  ⟨some 81, .mv (.tmp 0), none⟩,
  ⟨some 82, .nilCheck (.tmp 81), none⟩,
  ⟨some 83, .fieldAddr 5 (.tmp 82), none⟩,
  ⟨some 84, .load false [.int .u64] (.tmp 83), none⟩,
  ⟨some 85, .mv (.tmp 7), none⟩,
  ⟨some 86, .conv .u64 (.tmp 85), none⟩,
  ⟨some 87, .call false (.func 13) [.tmp 80, .const (.int .i64 0), .tmp 84, .tmp 86] [(false, [.bool])] true, none⟩]
def o18_35 : List AOper := [⟨some 88, .mv (.tmp 0), none⟩,
  ⟨some 89, .mv (.tmp 0), none⟩,
  ⟨some 90, .nilCheck (.tmp 89), none⟩,
  ⟨some 91, .fieldAddr 5 (.tmp 90), none⟩,
  ⟨some 92, .load false [.int .u64] (.tmp 91), none⟩,
  ⟨some 93, .conv .i64 (.tmp 92), none⟩,
  ⟨some 94, .nilCheck (.tmp 88), none⟩,
  ⟨some 95, .fieldAddr 6 (.tmp 94), none⟩,
  ⟨none, .store 1 (.tmp 95) (.tmp 93), none⟩]
def o18_37 : List AOper := [⟨some 96, .mv (.tmp 0), none⟩,
  ⟨some 97, .mv (.tmp 7), none⟩,
  ⟨some 98, .nilCheck (.tmp 96), none⟩,
  ⟨some 99, .fieldAddr 7 (.tmp 98), none⟩,
  ⟨none, .store 1 (.tmp 99) (.tmp 97), none⟩]
def o18_38 : List AOper := [⟨some 100, .mv (.tmp 0), none⟩,
  ⟨some 101, .nilCheck (.tmp 100), none⟩,
  ⟨some 102, .fieldAddr 4 (.tmp 101), none⟩,
  ⟨none, .store 1 (.tmp 102) (.const (.bool true)), none⟩]
def o18_39 : List AOper := [⟨some 103, .mv (.tmp 0), none⟩,
  ⟨some 104, .nilCheck (.tmp 103), none⟩,
  ⟨some 105, .fieldAddr 2 (.tmp 104), none⟩,
  ⟨some 106, .load false [.int .i64] (.tmp 105), none⟩,
  ⟨some 107, .bin .add (.tmp 106) (.const (.int .i64 1)), none⟩,
  ⟨some 108, .nilCheck (.tmp 103), none⟩,
  ⟨some 109, .fieldAddr 2 (.tmp 108), none⟩,
  ⟨none, .store 1 (.tmp 109) (.tmp 107), none⟩]
def o18_41 : List AOper := [⟨some 4, .mv (.const (.bool true)), none⟩]
def c18_40 : ACode := .seq (.ops o18_41) (.ret)
def c18_0 : ACode := .seq (.ops o18_1) (.seq (.seq (.ops o18_4) (.cond (.tmp 26) (.seq (.ops o18_7) (.ret)) (.skip))) (.seq (.seq (.ops o18_12) (.cond (.tmp 31) (.seq (.ops o18_15) (.seq (.ops o18_17) (.seq (.draw [] 0 o18_19 []) (.seq (.ops o18_21) (.clear [0, 1, 2, 3, 4, 5, 6, 7, 8, 9, 10, 11, 12, 13, 14, 15, 16, 17, 18, 19, 20, 21, 22, 23, 24, 25, 26, 27, 28, 29, 30, 31, 32, 33, 34, 35, 36, 37, 38, 39, 40, 41, 42, 43, 44, 45, 46, 47, 48, 49, 50, 51, 52, 53, 54, 55, 56, 57, 58, 59, 60, 61, 62, 63, 64, 65, 66, 67, 68, 69, 70, 71, 72, 73, 74, 75, 76, 77, 78, 79, 80, 81, 82, 83, 84, 85, 86, 87, 88, 89, 90, 91, 92, 93, 94, 95, 96, 97, 98, 99, 100, 101, 102, 103, 104, 105, 106, 107, 108, 109] c18_22))))) (.skip))) (.seq (.ops o18_27) (.seq (.draw [] 0 o18_29 []) (.seq (.seq (.ops o18_32) (.cond (.tmp 87) (.seq (.ops o18_35) (.seq (.ops o18_37) (.ops o18_38))) (.ops o18_39))) (.clear [0, 1, 2, 3, 4, 5, 6, 7, 8, 9, 10, 11, 12, 13, 14, 15, 16, 17, 18, 19, 20, 21, 22, 23, 24, 25, 26, 27, 28, 29, 30, 31, 32, 33, 34, 35, 36, 37, 38, 39, 40, 41, 42, 43, 44, 45, 46, 47, 48, 49, 50, 51, 52, 53, 54, 55, 56, 57, 58, 59, 60, 61, 62, 63, 64, 65, 66, 67, 68, 69, 70, 71, 72, 73, 74, 75, 76, 77, 78, 79, 80, 81, 82, 83, 84, 85, 86, 87, 88, 89, 90, 91, 92, 93, 94, 95, 96, 97, 98, 99, 100, 101, 102, 103, 104, 105, 106, 107, 108, 109] c18_40))))))
def a18 : AFun := ⟨110, [.tmp 4], c18_0⟩
theorem ok18 : OkFun Try.prog 18 a18 := ⟨Try.f18, Try.f18.body.getD .skip, Try.func18, by kernel_rfl, by kernel_rfl, by kernel_rfl, by kernel_rfl, by kernel_rfl⟩
/-! #### batch.Claim.Done -/
def o19_1 : List AOper := [⟨some 2, .mv (.const (.bool false)), none⟩]
def o19_3 : List AOper := [⟨some 3, .mv (.tmp 0), none⟩,
  ⟨some 4, .eqNil 0 true (.tmp 3), none⟩,
  ⟨some 5, .mv (.tmp 4), none⟩,
  ⟨some 6, .mv (.tmp 0), some (5, true)⟩,
  ⟨some 7, .nilCheck (.tmp 6), some (5, true)⟩,
  ⟨some 8, .fieldAddr 3 (.tmp 7), some (5, true)⟩,
  ⟨some 9, .load false [.bool] (.tmp 8), some (5, true)⟩,
  ⟨some 10, .pick (.tmp 5) (.tmp 9) (.const (.bool false)), none⟩,
  ⟨some 11, .mv (.tmp 10), none⟩,
  ⟨some 12, .mv (.tmp 0), some (11, true)⟩,
  ⟨some 13, .nilCheck (.tmp 12), some (11, true)⟩,
  ⟨some 14, .fieldAddr 2 (.tmp 13), some (11, true)⟩,
  ⟨some 15, .load false [.any] (.tmp 14), some (11, true)⟩,
  ⟨some 16, .eqNil 2 false (.tmp 15), some (11, true)⟩,
  ⟨some 17, .pick (.tmp 11) (.tmp 16) (.const (.bool false)), none⟩,
  ⟨some 2, .mv (.tmp 17), none⟩]
def c19_0 : ACode := .seq (.ops o19_1) (.seq (.ops o19_3) (.ret))
def a19 : AFun := ⟨18, [.tmp 2], c19_0⟩
theorem ok19 : OkFun Try.prog 19 a19 := ⟨Try.f19, Try.f19.body.getD .skip, Try.func19, by kernel_rfl, by kernel_rfl, by kernel_rfl, by kernel_rfl, by kernel_rfl⟩
/-! #### batch.Claim.Lost -/
def o20_1 : List AOper := [⟨some 2, .mv (.const (.int .i64 0)), none⟩]
def o20_4 : List AOper := [⟨some 3, .mv (.tmp 0), none⟩,
  ⟨some 4, .eqNil 0 false (.tmp 3), none⟩]
def o20_7 : List AOper := [⟨some 2, .mv (.const (.int .i64 0)), none⟩]
def o20_11 : List AOper := [⟨some 5, .mv (.tmp 0), none⟩,
  ⟨some 6, .nilCheck (.tmp 5), none⟩,
  ⟨some 7, .fieldAddr 7 (.tmp 6), none⟩,
  ⟨some 8, .load false [.int .i64] (.tmp 7), none⟩,
  ⟨some 2, .mv (.tmp 8), none⟩]
def c20_0 : ACode := .seq (.ops o20_1) (.seq (.seq (.ops o20_4) (.cond (.tmp 4) (.seq (.ops o20_7) (.ret)) (.skip))) (.seq (.ops o20_11) (.ret)))
def a20 : AFun := ⟨9, [.tmp 2], c20_0⟩
theorem ok20 : OkFun Try.prog 20 a20 := ⟨Try.f20, Try.f20.body.getD .skip, Try.func20, by kernel_rfl, by kernel_rfl, by kernel_rfl, by kernel_rfl, by kernel_rfl⟩
/-! #### batch.Claim.Range -/
def o21_1 : List AOper := [⟨some 2, .mv (.const (.int .i64 0)), none⟩,
  ⟨some 3, .mv (.const (.int .i64 0)), none⟩,
  ⟨some 4, .mv (.const (.bool false)), none⟩]
def o21_4 : List AOper := [⟨some 5, .mv (.tmp 0), none⟩,
  ⟨some 6, .call false (.func 19) [.tmp 5] [(false, [.bool])] true, none⟩,
  ⟨some 7, .un .not (.tmp 6), none⟩]
def o21_7 : List AOper := [⟨some 2, .mv (.const (.int .i64 0)), none⟩,
  ⟨some 3, .mv (.const (.int .i64 0)), none⟩,
  ⟨some 4, .mv (.const (.bool false)), none⟩]
def o21_11 : List (AOper × Option Nat) := [(⟨some 8, .mv (.tmp 0), none⟩, none),
  (⟨some 9, .nilCheck (.tmp 8), none⟩, none),
  (⟨some 10, .fieldAddr 5 (.tmp 9), none⟩, none),
  (⟨some 11, .load false [.int .i64] (.tmp 10), none⟩, none),
  (⟨some 12, .mv (.tmp 0), none⟩, none),
  (⟨some 13, .nilCheck (.tmp 12), none⟩, none),
  (⟨some 14, .fieldAddr 6 (.tmp 13), none⟩, none),
  (⟨some 15, .load false [.int .i64] (.tmp 14), none⟩, none),
  (⟨some 16, .mv (.tmp 0), none⟩, none),
  (⟨some 17, .nilCheck (.tmp 16), none⟩, none),
  (⟨some 18, .fieldAddr 5 (.tmp 17), none⟩, none),
  (⟨some 19, .load false [.int .i64] (.tmp 18), none⟩, none),
  (⟨some 20, .mv (.tmp 0), none⟩, none),
  (⟨some 21, .nilCheck (.tmp 20), none⟩, none),
  (⟨some 22, .fieldAddr 6 (.tmp 21), none⟩, none),
  (⟨some 23, .load false [.int .i64] (.tmp 22), none⟩, none),
  (⟨some 24, .bin .lss (.tmp 19) (.tmp 23), none⟩, none),
  (⟨some 2, .mv (.tmp 11), none⟩, none),
  (⟨some 3, .mv (.tmp 15), none⟩, none),
  (⟨some 4, .mv (.tmp 24), none⟩, none)]
def c21_0 : ACode := .seq (.ops o21_1) (.seq (.seq (.ops o21_4) (.cond (.tmp 7) (.seq (.ops o21_7) (.ret)) (.skip))) (.seq (.draw [] 0 o21_11 []) (.ret)))
def a21 : AFun := ⟨25, [.tmp 2, .tmp 3, .tmp 4], c21_0⟩
theorem ok21 : OkFun Try.prog 21 a21 := ⟨Try.f21, Try.f21.body.getD .skip, Try.func21, by kernel_rfl, by kernel_rfl, by kernel_rfl, by kernel_rfl, by kernel_rfl⟩
/-! #### cell.Memory.Load -/
def o22_1 : List AOper := [⟨some 4, .mv (.const (.int .u64 0)), none⟩,
  ⟨some 5, .mv (.const (.bool false)), none⟩]
def o22_3 : List AOper := [⟨some 7, .mv (.tmp 0), none⟩,
  ⟨some 8, .mv (.tmp 1), none⟩,
  ⟨some 9, .call false (.func 54) [.tmp 7, .tmp 8] [(false, [.ptr])] true, none⟩,
  ⟨some 6, .mv (.tmp 9), none⟩]
def o22_6 : List AOper := [⟨some 10, .mv (.tmp 6), none⟩,
  ⟨some 11, .eqNil 0 false (.tmp 10), none⟩]
def o22_9 : List AOper := [⟨some 4, .mv (.const (.int .u64 0)), none⟩,
  ⟨some 5, .mv (.const (.bool false)), none⟩]
def o22_13 : List AOper := [⟨some 12, .mv (.tmp 6), none⟩,
  ⟨some 13, .nilCheck (.tmp 12), none⟩,
  ⟨some 14, .load false [.int .u64] (.tmp 13), none⟩,
  ⟨some 4, .mv (.tmp 14), none⟩,
  ⟨some 5, .mv (.const (.bool true)), none⟩]
def c22_0 : ACode := .seq (.ops o22_1) (.seq (.ops o22_3) (.seq (.seq (.ops o22_6) (.cond (.tmp 11) (.seq (.ops o22_9) (.ret)) (.skip))) (.seq (.ops o22_13) (.ret))))
def a22 : AFun := ⟨15, [.tmp 4, .tmp 5], c22_0⟩
theorem ok22 : OkFun Try.prog 22 a22 := ⟨Try.f22, Try.f22.body.getD .skip, Try.func22, by kernel_rfl, by kernel_rfl, by kernel_rfl, by kernel_rfl, by kernel_rfl⟩
/-! #### batch.Wins -/
def o23_1 : List AOper := [⟨some 4, .mv (.const (.int .i64 0)), none⟩]
def o23_4 : List AOper := [⟨some 5, .mv (.tmp 0), none⟩,
  ⟨some 6, .bin .lss (.tmp 5) (.const (.int .i64 0)), none⟩,
  ⟨some 7, .mv (.tmp 6), none⟩,
  ⟨some 8, .mv (.tmp 0), some (7, false)⟩,
  ⟨some 9, .bin .gtr (.tmp 8) (.const (.int .i64 1048576)), some (7, false)⟩,
  ⟨some 10, .pick (.tmp 7) (.const (.bool true)) (.tmp 9), none⟩,
  ⟨some 11, .mv (.tmp 10), none⟩,
  ⟨some 12, .mv (.tmp 1), some (11, false)⟩,
  ⟨some 13, .bin .lss (.tmp 12) (.const (.int .i64 1)), some (11, false)⟩,
  ⟨some 14, .pick (.tmp 11) (.const (.bool true)) (.tmp 13), none⟩,
  ⟨some 15, .mv (.tmp 14), none⟩,
  ⟨some 16, .mv (.tmp 1), some (15, false)⟩,
  ⟨some 17, .bin .gtr (.tmp 16) (.const (.int .i64 65536)), some (15, false)⟩,
  ⟨some 18, .pick (.tmp 15) (.const (.bool true)) (.tmp 17), none⟩]
def o23_7 : List AOper := [⟨some 4, .mv (.const (.int .i64 0)), none⟩]
def o23_11 : List AOper := [⟨some 19, .mv (.tmp 0), none⟩,
  ⟨some 20, .mv (.tmp 1), none⟩,
  ⟨some 21, .bin .add (.tmp 19) (.tmp 20), none⟩,
  ⟨some 22, .bin .sub (.tmp 21) (.const (.int .i64 1)), none⟩,
  ⟨some 23, .mv (.tmp 1), none⟩,
  ⟨some 24, .bin .quo (.tmp 22) (.tmp 23), none⟩,
  ⟨some 4, .mv (.tmp 24), none⟩]
def c23_0 : ACode := .seq (.ops o23_1) (.seq (.seq (.ops o23_4) (.cond (.tmp 18) (.seq (.ops o23_7) (.ret)) (.skip))) (.seq (.ops o23_11) (.ret)))
def a23 : AFun := ⟨25, [.tmp 4], c23_0⟩
theorem ok23 : OkFun Try.prog 23 a23 := ⟨Try.f23, Try.f23.body.getD .skip, Try.func23, by kernel_rfl, by kernel_rfl, by kernel_rfl, by kernel_rfl, by kernel_rfl⟩
/-! #### skylightref35.Wins -/
def o24_1 : List AOper := [⟨some 4, .mv (.const (.int .i64 0)), none⟩]
def o24_3 : List AOper := [⟨some 5, .mv (.const (.int .i64 0)), none⟩]
def o24_6 : List AOper := [⟨some 6, .mv (.const (.int .i64 0)), none⟩]
def o24_11 : List AOper := [⟨some 7, .mv (.tmp 6), none⟩,
  ⟨some 8, .mv (.tmp 0), none⟩,
  ⟨some 9, .bin .lss (.tmp 7) (.tmp 8), none⟩,
  ⟨some 10, .mv (.tmp 9), none⟩,
  ⟨some 11, .mv (.tmp 1), some (10, true)⟩,
  ⟨some 12, .bin .geq (.tmp 11) (.const (.int .i64 1)), some (10, true)⟩,
  ⟨some 13, .pick (.tmp 10) (.tmp 12) (.const (.bool false)), none⟩,
  ⟨some 14, .mv (.tmp 13), none⟩,
  ⟨some 15, .mv (.tmp 1), some (14, true)⟩,
  ⟨some 16, .bin .leq (.tmp 15) (.const (.int .i64 65536)), some (14, true)⟩,
  ⟨some 17, .pick (.tmp 14) (.tmp 16) (.const (.bool false)), none⟩,
  ⟨some 18, .mv (.tmp 17), none⟩,
  ⟨some 19, .mv (.tmp 0), some (18, true)⟩,
  ⟨some 20, .bin .leq (.tmp 19) (.const (.int .i64 1048576)), some (18, true)⟩,
  ⟨some 21, .pick (.tmp 18) (.tmp 20) (.const (.bool false)), none⟩]
def o24_17 : List AOper := [⟨some 25, .mv (.tmp 5), none⟩,
  ⟨some 26, .bin .add (.tmp 25) (.const (.int .i64 1)), none⟩,
  ⟨some 5, .mv (.tmp 26), none⟩]
def o24_18 : List AOper := [⟨some 22, .mv (.tmp 6), none⟩,
  ⟨some 23, .mv (.tmp 1), none⟩,
  ⟨some 24, .bin .add (.tmp 22) (.tmp 23), none⟩,
  ⟨some 6, .mv (.tmp 24), none⟩]
def c24_18 : ACode := .ops o24_18
def b24_8 : ACode := .post (.seq (.seq (.ops o24_11) (.cond (.tmp 21) (.skip) (.exit 0))) (.seq (.block 1 (.ops o24_17)) (.clear [2, 3, 4, 7, 8, 9, 10, 11, 12, 13, 14, 15, 16, 17, 18, 19, 20, 21, 22, 23, 24, 25, 26, 27] c24_18))) [2, 3, 4, 7, 8, 9, 10, 11, 12, 13, 14, 15, 16, 17, 18, 19, 20, 21, 22, 23, 24, 25, 26, 27]
def o24_20 : List AOper := [⟨some 27, .mv (.tmp 5), none⟩,
  ⟨some 4, .mv (.tmp 27), none⟩]
def c24_19 : ACode := .seq (.ops o24_20) (.ret)
def c24_0 : ACode := .seq (.ops o24_1) (.seq (.ops o24_3) (.seq (.seq (.ops o24_6) (.block 0 (.clear [2, 3, 4, 7, 8, 9, 10, 11, 12, 13, 14, 15, 16, 17, 18, 19, 20, 21, 22, 23, 24, 25, 26, 27] (.loop b24_8)))) (.clear [0, 1, 2, 3, 4, 6, 7, 8, 9, 10, 11, 12, 13, 14, 15, 16, 17, 18, 19, 20, 21, 22, 23, 24, 25, 26, 27] c24_19)))
def a24 : AFun := ⟨28, [.tmp 4], c24_0⟩
theorem ok24 : OkFun Try.prog 24 a24 := ⟨Try.f24, Try.f24.body.getD .skip, Try.func24, by kernel_rfl, by kernel_rfl, by kernel_rfl, by kernel_rfl, by kernel_rfl⟩
/-! #### skylightref41.Right -/
def o25_1 : List AOper := [⟨some 1, .box (.tmp 0), none⟩,
  ⟨some 2, .mv (.const (.bool false)), none⟩]
def o25_4 : List AOper := [⟨some 3, .mv (.const (.int .i64 0)), none⟩]
def o25_9 : List AOper := [⟨some 4, .mv (.tmp 3), none⟩,
  ⟨some 5, .fieldAddr 2 (.tmp 1), none⟩,
  ⟨some 6, .load false [.slice] (.tmp 5), none⟩,
  ⟨some 7, .len (.tmp 6), none⟩,
  ⟨some 8, .bin .lss (.tmp 4) (.tmp 7), none⟩]
def o25_16 : List (AOper × Option Nat) := [(⟨some 11, .fieldAddr 2 (.tmp 1), none⟩, none),
  (⟨some 12, .load false [.slice] (.tmp 11), none⟩, none),
  (⟨some 13, .mv (.tmp 3), none⟩, none),
  (⟨some 14, .indexAddr 3 (.tmp 12) (.tmp 13), none⟩, none),
  (⟨some 15, .indexArr 3 1 (.tmp 14) (.const (.int .i64 0)), none⟩, none),
  (⟨some 16, .load false [.int .i64] (.tmp 15), none⟩, none),
  (⟨some 17, .fieldAddr 2 (.tmp 1), none⟩, none),
  (⟨some 18, .load false [.slice] (.tmp 17), none⟩, none),
  (⟨some 19, .mv (.tmp 3), none⟩, none),
  (⟨some 20, .indexAddr 3 (.tmp 18) (.tmp 19), none⟩, none),
  (⟨some 21, .indexArr 3 1 (.tmp 20) (.const (.int .i64 1)), none⟩, none),
  (⟨some 22, .load false [.int .i64] (.tmp 21), none⟩, none),
  (⟨some 23, .fieldAddr 2 (.tmp 1), none⟩, none),
  (⟨some 24, .load false [.slice] (.tmp 23), none⟩, none),
  (⟨some 25, .mv (.tmp 3), none⟩, none),
  (⟨some 26, .indexAddr 3 (.tmp 24) (.tmp 25), none⟩, none),
  (⟨some 27, .indexArr 3 1 (.tmp 26) (.const (.int .i64 2)), none⟩, none),
  (⟨some 28, .load false [.int .i64] (.tmp 27), none⟩, none),
  (⟨some 29, .minmax false [.tmp 16, .tmp 22, .tmp 28], none⟩, none),
  (⟨some 30, .bin .lss (.tmp 29) (.const (.int .i64 0)), none⟩, none),
  (⟨some 31, .mv (.tmp 30), none⟩, none),
  (⟨some 32, .fieldAddr 2 (.tmp 1), some (31, false)⟩, none),
  (⟨some 33, .load false [.slice] (.tmp 32), some (31, false)⟩, none),
  (⟨some 34, .mv (.tmp 3), some (31, false)⟩, none),
  (⟨some 35, .indexAddr 3 (.tmp 33) (.tmp 34), some (31, false)⟩, none),
  (⟨some 36, .indexArr 3 1 (.tmp 35) (.const (.int .i64 0)), some (31, false)⟩, none),
  (⟨some 37, .load false [.int .i64] (.tmp 36), some (31, false)⟩, none),
  (⟨some 38, .fieldAddr 2 (.tmp 1), some (31, false)⟩, none),
  (⟨some 39, .load false [.slice] (.tmp 38), some (31, false)⟩, none),
  (⟨some 40, .mv (.tmp 3), some (31, false)⟩, none),
  (⟨some 41, .indexAddr 3 (.tmp 39) (.tmp 40), some (31, false)⟩, none),
  (⟨some 42, .indexArr 3 1 (.tmp 41) (.const (.int .i64 1)), some (31, false)⟩, none),
  (⟨some 43, .load false [.int .i64] (.tmp 42), some (31, false)⟩, none),
  (⟨some 44, .fieldAddr 2 (.tmp 1), some (31, false)⟩, none),
  (⟨some 45, .load false [.slice] (.tmp 44), some (31, false)⟩, none),
  (⟨some 46, .mv (.tmp 3), some (31, false)⟩, none),
  (⟨some 47, .indexAddr 3 (.tmp 45) (.tmp 46), some (31, false)⟩, none),
  (⟨some 48, .indexArr 3 1 (.tmp 47) (.const (.int .i64 2)), some (31, false)⟩, none),
  (⟨some 49, .load false [.int .i64] (.tmp 48), some (31, false)⟩, none),
  (⟨some 50, .minmax true [.tmp 37, .tmp 43, .tmp 49], some (31, false)⟩, none),
  (⟨some 51, .bin .gtr (.tmp 50) (.const (.int .i64 255)), some (31, false)⟩, none),
  (⟨some 52, .pick (.tmp 31) (.const (.bool true)) (.tmp 51), none⟩, none)]
def o25_19 : List AOper := [⟨some 2, .mv (.const (.bool false)), none⟩]
def o25_22 : List AOper := [⟨some 9, .mv (.tmp 3), none⟩,
  ⟨some 10, .bin .add (.tmp 9) (.const (.int .i64 1)), none⟩,
  ⟨some 3, .mv (.tmp 10), none⟩]
def c25_22 : ACode := .ops o25_22
def b25_6 : ACode := .post (.seq (.seq (.ops o25_9) (.cond (.tmp 8) (.skip) (.exit 0))) (.seq (.block 1 (.seq (.draw [] 0 o25_16 []) (.cond (.tmp 52) (.seq (.ops o25_19) (.ret)) (.skip)))) (.clear [0, 2, 4, 5, 6, 7, 8, 9, 10, 11, 12, 13, 14, 15, 16, 17, 18, 19, 20, 21, 22, 23, 24, 25, 26, 27, 28, 29, 30, 31, 32, 33, 34, 35, 36, 37, 38, 39, 40, 41, 42, 43, 44, 45, 46, 47, 48, 49, 50, 51, 52, 53, 54, 55, 56, 57, 58, 59, 60] c25_22))) [0, 2, 4, 5, 6, 7, 8, 9, 10, 11, 12, 13, 14, 15, 16, 17, 18, 19, 20, 21, 22, 23, 24, 25, 26, 27, 28, 29, 30, 31, 32, 33, 34, 35, 36, 37, 38, 39, 40, 41, 42, 43, 44, 45, 46, 47, 48, 49, 50, 51, 52, 53, 54, 55, 56, 57, 58, 59, 60]
def o25_24 : List AOper := [⟨some 53, .fieldAddr 0 (.tmp 1), none⟩,
  ⟨some 54, .load false [.int .i64] (.tmp 53), none⟩,
  ⟨some 55, .fieldAddr 1 (.tmp 1), none⟩,
  ⟨some 56, .load false [.int .i64] (.tmp 55), none⟩,
  ⟨some 57, .fieldAddr 2 (.tmp 1), none⟩,
  ⟨some 58, .load false [.slice] (.tmp 57), none⟩,
  ⟨some 59, .len (.tmp 58), none⟩,
  ⟨some 60, .call true (.func 59) [.tmp 54, .tmp 56, .tmp 59] [(false, [.bool])] true, none⟩,
  ⟨some 2, .mv (.tmp 60), none⟩]
def c25_23 : ACode := .seq (.ops o25_24) (.ret)
def c25_0 : ACode := .seq (.ops o25_1) (.seq (.seq (.ops o25_4) (.block 0 (.clear [0, 2, 4, 5, 6, 7, 8, 9, 10, 11, 12, 13, 14, 15, 16, 17, 18, 19, 20, 21, 22, 23, 24, 25, 26, 27, 28, 29, 30, 31, 32, 33, 34, 35, 36, 37, 38, 39, 40, 41, 42, 43, 44, 45, 46, 47, 48, 49, 50, 51, 52, 53, 54, 55, 56, 57, 58, 59, 60] (.loop b25_6)))) (.clear [0, 2, 3, 4, 5, 6, 7, 8, 9, 10, 11, 12, 13, 14, 15, 16, 17, 18, 19, 20, 21, 22, 23, 24, 25, 26, 27, 28, 29, 30, 31, 32, 33, 34, 35, 36, 37, 38, 39, 40, 41, 42, 43, 44, 45, 46, 47, 48, 49, 50, 51, 52, 53, 54, 55, 56, 57, 58, 59, 60] c25_23))
def a25 : AFun := ⟨61, [.tmp 2], c25_0⟩
theorem ok25 : OkFun Try.prog 25 a25 := ⟨Try.f25, Try.f25.body.getD .skip, Try.func25, by kernel_rfl, by kernel_rfl, by kernel_rfl, by kernel_rfl, by kernel_rfl⟩
/-! #### skylightlaw51.awake -/
def o26_1 : List AOper := [⟨some 0, .mv (.const (.bool false)), none⟩]
def o26_3 : List AOper := [⟨some 3, .build [.int .i64 0, .int .i64 0, .int .i64 0] [(0, 1, .const (.int .i64 10)), (1, 1, .const (.int .i64 0)), (2, 1, .const (.int .i64 0))], none⟩,
  ⟨some 4, .build [.int .i64 0, .int .i64 0, .int .i64 0] [(0, 1, .const (.int .i64 20)), (1, 1, .const (.int .i64 0)), (2, 1, .const (.int .i64 0))], none⟩,
  ⟨some 5, .buildSlice 3 2 [.int .i64 0, .int .i64 0, .int .i64 0, .int .i64 0, .int .i64 0, .int .i64 0] [(0, 3, .tmp 3), (3, 3, .tmp 4)], none⟩,
  ⟨some 6, .build [.int .i64 0, .int .i64 0, .slice none 0 0] [(0, 1, .const (.int .i64 2)), (1, 1, .const (.int .i64 1)), (2, 1, .tmp 5)], none⟩,
  ⟨some 1, .alloc [.int .i64 0, .int .i64 0, .slice none 0 0], none⟩,
  ⟨none, .store 3 (.tmp 1) (.tmp 6), none⟩]
def o26_5 : List AOper := [⟨some 7, .load true [.int .i64, .int .i64, .slice] (.tmp 1), none⟩,
  ⟨some 8, .call false (.func 27) [.tmp 7] [(true, [.int .i64, .int .i64, .slice])] true, none⟩,
  ⟨some 2, .alloc [.int .i64 0, .int .i64 0, .slice none 0 0], none⟩,
  ⟨none, .store 3 (.tmp 2) (.tmp 8), none⟩]
def o26_7 : List AOper := [⟨some 9, .fieldAddr 2 (.tmp 2), none⟩,
  ⟨some 10, .load false [.slice] (.tmp 9), none⟩,
  ⟨some 11, .len (.tmp 10), none⟩,
  ⟨some 12, .bin .eql (.tmp 11) (.const (.int .i64 1)), none⟩,
  ⟨some 13, .mv (.tmp 12), none⟩,
  ⟨some 14, .fieldAddr 2 (.tmp 2), some (13, true)⟩,
  ⟨some 15, .load false [.slice] (.tmp 14), some (13, true)⟩,
  ⟨some 16, .indexAddr 3 (.tmp 15) (.const (.int .i64 0)), some (13, true)⟩,
  ⟨some 17, .load true [.int .i64, .int .i64, .int .i64] (.tmp 16), some (13, true)⟩,
  ⟨some 18, .build [.int .i64 0, .int .i64 0, .int .i64 0] [(0, 1, .const (.int .i64 15)), (1, 1, .const (.int .i64 0)), (2, 1, .const (.int .i64 0))], some (13, true)⟩,
  ⟨some 19, .eqAgg [.int .i64, .int .i64, .int .i64] false (.tmp 17) (.tmp 18), some (13, true)⟩,
  ⟨some 20, .pick (.tmp 13) (.tmp 19) (.const (.bool false)), none⟩,
  ⟨some 21, .mv (.tmp 20), none⟩,
  ⟨some 22, .call true (.func 34) [.const (.int .i64 5), .const (.int .i64 3)] [(false, [.int .i64])] true, some (21, true)⟩,
  ⟨some 23, .bin .eql (.tmp 22) (.const (.int .i64 4)), some (21, true)⟩,
  ⟨some 24, .pick (.tmp 21) (.tmp 23) (.const (.bool false)), none⟩,
  ⟨some 25, .mv (.tmp 24), none⟩,
  ⟨some 26, .load true [.int .i64, .int .i64, .slice] (.tmp 1), some (25, true)⟩,
  ⟨some 27, .call false (.func 33) [.tmp 26] [(false, [.slice])] true, some (25, true)⟩,
  ⟨some 28, .len (.tmp 27), some (25, true)⟩,
  ⟨some 29, .bin .eql (.tmp 28) (.const (.int .i64 2)), some (25, true)⟩,
  ⟨some 30, .pick (.tmp 25) (.tmp 29) (.const (.bool false)), none⟩,
  ⟨some 31, .mv (.tmp 30), none⟩,
  ⟨some 32, .call true (.func 34) [.const (.int .i64 0), .const (.int .i64 1)] [(false, [.int .i64])] true, some (31, true)⟩,
  ⟨some 33, .bin .eql (.tmp 32) (.const (.int .i64 0)), some (31, true)⟩,
  ⟨some 34, .pick (.tmp 31) (.tmp 33) (.const (.bool false)), none⟩,
  ⟨some 35, .mv (.tmp 34), none⟩,
  ⟨some 36, .build [.int .i64 0, .int .i64 0, .slice none 0 0] [], some (35, true)⟩,
  ⟨some 37, .call false (.func 27) [.tmp 36] [(true, [.int .i64, .int .i64, .slice])] true, some (35, true)⟩,
  ⟨some 38, .field false 2 1 (.tmp 37), some (35, true)⟩,
  ⟨some 39, .len (.tmp 38), some (35, true)⟩,
  ⟨some 40, .bin .eql (.tmp 39) (.const (.int .i64 0)), some (35, true)⟩,
  ⟨some 41, .pick (.tmp 35) (.tmp 40) (.const (.bool false)), none⟩,
  ⟨some 0, .mv (.tmp 41), none⟩]
def c26_0 : ACode := .seq (.ops o26_1) (.seq (.ops o26_3) (.seq (.ops o26_5) (.seq (.ops o26_7) (.ret))))
def a26 : AFun := ⟨42, [.tmp 0], c26_0⟩
theorem ok26 : OkFun Try.prog 26 a26 := ⟨Try.f26, Try.f26.body.getD .skip, Try.func26, by kernel_rfl, by kernel_rfl, by kernel_rfl, by kernel_rfl, by kernel_rfl⟩
/-! #### mip.Half -/
def o27_1 : List AOper := [⟨some 1, .box (.tmp 0), none⟩,
  ⟨some 2, .alloc [.int .i64 0, .int .i64 0, .slice none 0 0], none⟩]
def o27_4 : List AOper := [⟨some 3, .load true [.int .i64, .int .i64, .slice] (.tmp 1), none⟩,
  ⟨some 4, .call false (.func 60) [.tmp 3] [(false, [.bool])] true, none⟩,
  ⟨some 5, .un .not (.tmp 4), none⟩]
def o27_7 : List AOper := [⟨some 6, .build [.int .i64 0, .int .i64 0, .slice none 0 0] [], none⟩,
  ⟨none, .store 3 (.tmp 2) (.tmp 6), none⟩]
def o27_11 : List AOper := [⟨some 7, .load true [.int .i64, .int .i64, .slice] (.tmp 1), none⟩,
  ⟨some 8, .call false (.func 61) [.tmp 7] [(true, [.int .i64, .int .i64, .slice])] true, none⟩,
  ⟨none, .store 3 (.tmp 2) (.tmp 8), none⟩]
def c27_0 : ACode := .seq (.ops o27_1) (.seq (.seq (.ops o27_4) (.cond (.tmp 5) (.seq (.ops o27_7) (.ret)) (.skip))) (.seq (.ops o27_11) (.ret)))
def a27 : AFun := ⟨9, [.cell true [.int .i64, .int .i64, .slice] 2], c27_0⟩
theorem ok27 : OkFun Try.prog 27 a27 := ⟨Try.f27, Try.f27.body.getD .skip, Try.func27, by kernel_rfl, by kernel_rfl, by kernel_rfl, by kernel_rfl, by kernel_rfl⟩
/-! #### skylightlaw51.of -/
def o28_1 : List AOper := [⟨some 1, .box (.tmp 0), none⟩,
  ⟨some 2, .alloc [.int .i64 0, .int .i64 0, .slice none 0 0], none⟩]
def o28_3 : List AOper := [⟨some 3, .fieldAddr 0 (.tmp 1), none⟩,
  ⟨some 4, .load false [.int .i64] (.tmp 3), none⟩,
  ⟨some 5, .fieldAddr 1 (.tmp 1), none⟩,
  ⟨some 6, .load false [.int .i64] (.tmp 5), none⟩,
  ⟨some 7, .fieldAddr 2 (.tmp 1), none⟩,
  ⟨some 8, .load false [.slice] (.tmp 7), none⟩,
  ⟨some 9, .build [.int .i64 0, .int .i64 0, .slice none 0 0] [(0, 1, .tmp 4), (1, 1, .tmp 6), (2, 1, .tmp 8)], none⟩,
  ⟨none, .store 3 (.tmp 2) (.tmp 9), none⟩]
def c28_0 : ACode := .seq (.ops o28_1) (.seq (.ops o28_3) (.ret))
def a28 : AFun := ⟨10, [.cell true [.int .i64, .int .i64, .slice] 2], c28_0⟩
theorem ok28 : OkFun Try.prog 28 a28 := ⟨Try.f28, Try.f28.body.getD .skip, Try.func28, by kernel_rfl, by kernel_rfl, by kernel_rfl, by kernel_rfl, by kernel_rfl⟩
end Go.Proofs.Ytjmeilpffmhojaa
