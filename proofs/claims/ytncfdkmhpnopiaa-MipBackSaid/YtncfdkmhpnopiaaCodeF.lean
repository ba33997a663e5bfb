/- Functions as the interpreter takes them, and that the program's are so. -/
import Derived.Test.YtncfdkmhpnopiaaAxC
import Derived.Test.YtncfdkmhpnopiaaProg
set_option linter.unusedVariables false
set_option maxRecDepth 100000
namespace Go.Proofs.Ytncfdkmhpnopiaa
open Go Go.Ax
/-! #### skylightlaw51.MipBetween -/
def o3_1 : List AOper := [⟨some 2, .box (.tmp 0), none⟩,
  ⟨some 4, .mv (.const (.bool false)), none⟩]
def o3_4 : List AOper := [⟨some 19, .load true [.int .i64, .int .i64, .slice] (.tmp 2), none⟩,
  ⟨some 20, .call false (.func 6) [.tmp 19] [(false, [.bool])] true, none⟩,
  ⟨some 21, .un .not (.tmp 20), none⟩,
  ⟨some 22, .mv (.tmp 21), none⟩,
  ⟨some 23, .fieldAddr 2 (.tmp 2), some (22, false)⟩,
  ⟨some 24, .load false [.slice] (.tmp 23), some (22, false)⟩,
  ⟨some 25, .len (.tmp 24), some (22, false)⟩,
  ⟨some 26, .bin .gtr (.tmp 25) (.const (.int .i64 40)), some (22, false)⟩,
  ⟨some 27, .pick (.tmp 22) (.const (.bool true)) (.tmp 26), none⟩]
def o3_7 : List AOper := [⟨some 28, .call true (.func 7) [] [(false, [.bool])] true, none⟩,
  ⟨some 4, .mv (.tmp 28), none⟩]
def o3_11 : List AOper := [⟨some 29, .load true [.int .i64, .int .i64, .slice] (.tmp 2), none⟩,
  ⟨some 30, .call false (.func 9) [.tmp 29] [(true, [.int .i64, .int .i64, .slice])] true, none⟩,
  ⟨some 31, .call false (.func 8) [.tmp 30] [(true, [.int .i64, .int .i64, .slice])] true, none⟩,
  ⟨some 5, .alloc [.int .i64 0, .int .i64 0, .slice none 0 0], none⟩,
  ⟨none, .store 3 (.tmp 5) (.tmp 31), none⟩]
def o3_14 : List AOper := [⟨some 6, .mv (.const (.int .i64 0)), none⟩]
def o3_19 : List AOper := [⟨some 32, .mv (.tmp 6), none⟩,
  ⟨some 33, .bin .lss (.tmp 32) (.const (.int .i64 3)), none⟩]
def o3_26 : List AOper := [⟨some 7, .mv (.const (.int .i64 255)), none⟩,
  ⟨some 8, .mv (.const (.int .i64 0)), none⟩]
def o3_29 : List AOper := [⟨some 9, .mv (.const (.int .i64 0)), none⟩]
def o3_34 : List AOper := [⟨some 36, .mv (.tmp 9), none⟩,
  ⟨some 37, .fieldAddr 2 (.tmp 2), none⟩,
  ⟨some 38, .load false [.slice] (.tmp 37), none⟩,
  ⟨some 39, .len (.tmp 38), none⟩,
  ⟨some 40, .bin .lss (.tmp 36) (.tmp 39), none⟩]
def c3_35 : ACode := .cond (.tmp 40) (.skip) (.exit 2)
def o3_41 : List AOper := [⟨some 43, .mv (.tmp 7), none⟩,
  ⟨some 44, .fieldAddr 2 (.tmp 2), none⟩,
  ⟨some 45, .load false [.slice] (.tmp 44), none⟩,
  ⟨some 46, .mv (.tmp 9), none⟩,
  ⟨some 47, .mv (.tmp 6), none⟩,
  ⟨some 48, .indexAddr 3 (.tmp 45) (.tmp 46), none⟩,
  ⟨some 49, .indexArr 3 1 (.tmp 48) (.tmp 47), none⟩,
  ⟨some 50, .load false [.int .i64] (.tmp 49), none⟩,
  ⟨some 51, .minmax false [.tmp 43, .tmp 50], none⟩,
  ⟨some 7, .mv (.tmp 51), none⟩]
def o3_42 : List AOper := [⟨some 52, .mv (.tmp 8), none⟩,
  ⟨some 53, .fieldAddr 2 (.tmp 2), none⟩,
  ⟨some 54, .load false [.slice] (.tmp 53), none⟩,
  ⟨some 55, .mv (.tmp 9), none⟩,
  ⟨some 56, .mv (.tmp 6), none⟩,
  ⟨some 57, .indexAddr 3 (.tmp 54) (.tmp 55), none⟩,
  ⟨some 58, .indexArr 3 1 (.tmp 57) (.tmp 56), none⟩,
  ⟨some 59, .load false [.int .i64] (.tmp 58), none⟩,
  ⟨some 60, .minmax true [.tmp 52, .tmp 59], none⟩,
  ⟨some 8, .mv (.tmp 60), none⟩]
def o3_43 : List AOper := [⟨some 41, .mv (.tmp 9), none⟩,
  ⟨some 42, .bin .add (.tmp 41) (.const (.int .i64 1)), none⟩,
  ⟨some 9, .mv (.tmp 42), none⟩]
def c3_43 : ACode := .ops o3_43
def b3_31 : ACode := .post (.seq (.seq (.ops o3_34) (.clear [0, 3, 4, 10, 11, 12, 13, 14, 15, 16, 17, 18, 19, 20, 21, 22, 23, 24, 25, 26, 27, 28, 29, 30, 31, 32, 33, 34, 35, 36, 37, 38, 39, 41, 42, 43, 44, 45, 46, 47, 48, 49, 50, 51, 52, 53, 54, 55, 56, 57, 58, 59, 60, 61, 62, 63, 64, 65, 66, 67, 68, 69, 70, 71, 72, 73, 74, 75, 76, 77, 78, 79, 80, 81, 82, 83, 84, 85, 86, 87, 88, 89, 90, 91, 92, 93, 94, 95, 96, 97, 98, 99, 100, 101, 102, 103, 104, 105, 106, 107, 108, 109, 110, 111, 112, 113, 114, 115, 116, 117, 118, 119, 120, 121, 122, 123, 124, 125, 126, 127, 128, 129, 130, 131, 132, 133, 134, 135, 136, 137, 138, 139, 140, 141, 142, 143, 144, 145, 146, 147, 148, 149, 150, 151, 152, 153, 154, 155, 156, 157, 158, 159, 160, 161, 162, 163, 164, 165, 166, 167, 168, 169, 170, 171, 172, 173, 174, 175, 176, 177, 178, 179, 180, 181, 182, 183, 184, 185, 186, 187, 188, 189, 190, 191, 192, 193, 194, 195, 196, 197, 198, 199, 200, 201, 202, 203, 204, 205, 206, 207, 208] c3_35)) (.seq (.block 3 (.seq (.ops o3_41) (.ops o3_42))) (.clear [0, 3, 4, 10, 11, 12, 13, 14, 15, 16, 17, 18, 19, 20, 21, 22, 23, 24, 25, 26, 27, 28, 29, 30, 31, 32, 33, 34, 35, 36, 37, 38, 39, 40, 41, 42, 43, 44, 45, 46, 47, 48, 49, 50, 51, 52, 53, 54, 55, 56, 57, 58, 59, 60, 61, 62, 63, 64, 65, 66, 67, 68, 69, 70, 71, 72, 73, 74, 75, 76, 77, 78, 79, 80, 81, 82, 83, 84, 85, 86, 87, 88, 89, 90, 91, 92, 93, 94, 95, 96, 97, 98, 99, 100, 101, 102, 103, 104, 105, 106, 107, 108, 109, 110, 111, 112, 113, 114, 115, 116, 117, 118, 119, 120, 121, 122, 123, 124, 125, 126, 127, 128, 129, 130, 131, 132, 133, 134, 135, 136, 137, 138, 139, 140, 141, 142, 143, 144, 145, 146, 147, 148, 149, 150, 151, 152, 153, 154, 155, 156, 157, 158, 159, 160, 161, 162, 163, 164, 165, 166, 167, 168, 169, 170, 171, 172, 173, 174, 175, 176, 177, 178, 179, 180, 181, 182, 183, 184, 185, 186, 187, 188, 189, 190, 191, 192, 193, 194, 195, 196, 197, 198, 199, 200, 201, 202, 203, 204, 205, 206, 207, 208] c3_43))) [0, 3, 4, 10, 11, 12, 13, 14, 15, 16, 17, 18, 19, 20, 21, 22, 23, 24, 25, 26, 27, 28, 29, 30, 31, 32, 33, 34, 35, 36, 37, 38, 39, 40, 41, 42, 43, 44, 45, 46, 47, 48, 49, 50, 51, 52, 53, 54, 55, 56, 57, 58, 59, 60, 61, 62, 63, 64, 65, 66, 67, 68, 69, 70, 71, 72, 73, 74, 75, 76, 77, 78, 79, 80, 81, 82, 83, 84, 85, 86, 87, 88, 89, 90, 91, 92, 93, 94, 95, 96, 97, 98, 99, 100, 101, 102, 103, 104, 105, 106, 107, 108, 109, 110, 111, 112, 113, 114, 115, 116, 117, 118, 119, 120, 121, 122, 123, 124, 125, 126, 127, 128, 129, 130, 131, 132, 133, 134, 135, 136, 137, 138, 139, 140, 141, 142, 143, 144, 145, 146, 147, 148, 149, 150, 151, 152, 153, 154, 155, 156, 157, 158, 159, 160, 161, 162, 163, 164, 165, 166, 167, 168, 169, 170, 171, 172, 173, 174, 175, 176, 177, 178, 179, 180, 181, 182, 183, 184, 185, 186, 187, 188, 189, 190, 191, 192, 193, 194, 195, 196, 197, 198, 199, 200, 201, 202, 203, 204, 205, 206, 207, 208]
def o3_45 : List AOper := [⟨some 10, .mv (.const (.int .i64 0)), none⟩]
def o3_50 : List AOper := [⟨some 61, .mv (.tmp 10), none⟩,
  ⟨some 62, .fieldAddr 2 (.tmp 5), none⟩,
  ⟨some 63, .load false [.slice] (.tmp 62), none⟩,
  ⟨some 64, .len (.tmp 63), none⟩,
  ⟨some 65, .bin .lss (.tmp 61) (.tmp 64), none⟩]
def o3_57 : List AOper := [⟨some 68, .fieldAddr 2 (.tmp 5), none⟩,
  ⟨some 69, .load false [.slice] (.tmp 68), none⟩,
  ⟨some 70, .mv (.tmp 10), none⟩,
  ⟨some 71, .mv (.tmp 6), none⟩,
  ⟨some 72, .indexAddr 3 (.tmp 69) (.tmp 70), none⟩,
  ⟨some 73, .indexArr 3 1 (.tmp 72) (.tmp 71), none⟩,
  ⟨some 74, .load false [.int .i64] (.tmp 73), none⟩,
  ⟨some 75, .mv (.tmp 7), none⟩,
  ⟨some 76, .bin .lss (.tmp 74) (.tmp 75), none⟩,
  ⟨some 77, .mv (.tmp 76), none⟩,
  ⟨some 78, .fieldAddr 2 (.tmp 5), some (77, false)⟩,
  ⟨some 79, .load false [.slice] (.tmp 78), some (77, false)⟩,
  ⟨some 80, .mv (.tmp 10), some (77, false)⟩,
  ⟨some 81, .mv (.tmp 6), some (77, false)⟩,
  ⟨some 82, .indexAddr 3 (.tmp 79) (.tmp 80), some (77, false)⟩,
  ⟨some 83, .indexArr 3 1 (.tmp 82) (.tmp 81), some (77, false)⟩,
  ⟨some 84, .load false [.int .i64] (.tmp 83), some (77, false)⟩,
  ⟨some 85, .mv (.tmp 8), some (77, false)⟩,
  ⟨some 86, .bin .gtr (.tmp 84) (.tmp 85), some (77, false)⟩,
  ⟨some 87, .pick (.tmp 77) (.const (.bool true)) (.tmp 86), none⟩]
def o3_60 : List AOper := [⟨some 4, .mv (.const (.bool false)), none⟩]
def o3_63 : List AOper := [⟨some 66, .mv (.tmp 10), none⟩,
  ⟨some 67, .bin .add (.tmp 66) (.const (.int .i64 1)), none⟩,
  ⟨some 10, .mv (.tmp 67), none⟩]
def c3_63 : ACode := .ops o3_63
def b3_47 : ACode := .post (.seq (.seq (.ops o3_50) (.cond (.tmp 65) (.skip) (.exit 4))) (.seq (.block 5 (.seq (.ops o3_57) (.cond (.tmp 87) (.seq (.ops o3_60) (.ret)) (.skip)))) (.clear [0, 3, 4, 9, 11, 12, 13, 14, 15, 16, 17, 18, 19, 20, 21, 22, 23, 24, 25, 26, 27, 28, 29, 30, 31, 32, 33, 34, 35, 36, 37, 38, 39, 40, 41, 42, 43, 44, 45, 46, 47, 48, 49, 50, 51, 52, 53, 54, 55, 56, 57, 58, 59, 60, 61, 62, 63, 64, 65, 66, 67, 68, 69, 70, 71, 72, 73, 74, 75, 76, 77, 78, 79, 80, 81, 82, 83, 84, 85, 86, 87, 88, 89, 90, 91, 92, 93, 94, 95, 96, 97, 98, 99, 100, 101, 102, 103, 104, 105, 106, 107, 108, 109, 110, 111, 112, 113, 114, 115, 116, 117, 118, 119, 120, 121, 122, 123, 124, 125, 126, 127, 128, 129, 130, 131, 132, 133, 134, 135, 136, 137, 138, 139, 140, 141, 142, 143, 144, 145, 146, 147, 148, 149, 150, 151, 152, 153, 154, 155, 156, 157, 158, 159, 160, 161, 162, 163, 164, 165, 166, 167, 168, 169, 170, 171, 172, 173, 174, 175, 176, 177, 178, 179, 180, 181, 182, 183, 184, 185, 186, 187, 188, 189, 190, 191, 192, 193, 194, 195, 196, 197, 198, 199, 200, 201, 202, 203, 204, 205, 206, 207, 208] c3_63))) [0, 3, 4, 9, 11, 12, 13, 14, 15, 16, 17, 18, 19, 20, 21, 22, 23, 24, 25, 26, 27, 28, 29, 30, 31, 32, 33, 34, 35, 36, 37, 38, 39, 40, 41, 42, 43, 44, 45, 46, 47, 48, 49, 50, 51, 52, 53, 54, 55, 56, 57, 58, 59, 60, 61, 62, 63, 64, 65, 66, 67, 68, 69, 70, 71, 72, 73, 74, 75, 76, 77, 78, 79, 80, 81, 82, 83, 84, 85, 86, 87, 88, 89, 90, 91, 92, 93, 94, 95, 96, 97, 98, 99, 100, 101, 102, 103, 104, 105, 106, 107, 108, 109, 110, 111, 112, 113, 114, 115, 116, 117, 118, 119, 120, 121, 122, 123, 124, 125, 126, 127, 128, 129, 130, 131, 132, 133, 134, 135, 136, 137, 138, 139, 140, 141, 142, 143, 144, 145, 146, 147, 148, 149, 150, 151, 152, 153, 154, 155, 156, 157, 158, 159, 160, 161, 162, 163, 164, 165, 166, 167, 168, 169, 170, 171, 172, 173, 174, 175, 176, 177, 178, 179, 180, 181, 182, 183, 184, 185, 186, 187, 188, 189, 190, 191, 192, 193, 194, 195, 196, 197, 198, 199, 200, 201, 202, 203, 204, 205, 206, 207, 208]
def c3_44 : ACode := .seq (.ops o3_45) (.block 4 (.clear [0, 3, 4, 9, 11, 12, 13, 14, 15, 16, 17, 18, 19, 20, 21, 22, 23, 24, 25, 26, 27, 28, 29, 30, 31, 32, 33, 34, 35, 36, 37, 38, 39, 40, 41, 42, 43, 44, 45, 46, 47, 48, 49, 50, 51, 52, 53, 54, 55, 56, 57, 58, 59, 60, 61, 62, 63, 64, 65, 66, 67, 68, 69, 70, 71, 72, 73, 74, 75, 76, 77, 78, 79, 80, 81, 82, 83, 84, 85, 86, 87, 88, 89, 90, 91, 92, 93, 94, 95, 96, 97, 98, 99, 100, 101, 102, 103, 104, 105, 106, 107, 108, 109, 110, 111, 112, 113, 114, 115, 116, 117, 118, 119, 120, 121, 122, 123, 124, 125, 126, 127, 128, 129, 130, 131, 132, 133, 134, 135, 136, 137, 138, 139, 140, 141, 142, 143, 144, 145, 146, 147, 148, 149, 150, 151, 152, 153, 154, 155, 156, 157, 158, 159, 160, 161, 162, 163, 164, 165, 166, 167, 168, 169, 170, 171, 172, 173, 174, 175, 176, 177, 178, 179, 180, 181, 182, 183, 184, 185, 186, 187, 188, 189, 190, 191, 192, 193, 194, 195, 196, 197, 198, 199, 200, 201, 202, 203, 204, 205, 206, 207, 208] (.loop b3_47)))
def o3_64 : List AOper := [⟨some 34, .mv (.tmp 6), none⟩,
  ⟨some 35, .bin .add (.tmp 34) (.const (.int .i64 1)), none⟩,
  ⟨some 6, .mv (.tmp 35), none⟩]
def c3_64 : ACode := .ops o3_64
def b3_16 : ACode := .post (.seq (.seq (.ops o3_19) (.cond (.tmp 33) (.skip) (.exit 0))) (.seq (.block 1 (.seq (.ops o3_26) (.seq (.seq (.ops o3_29) (.block 2 (.clear [0, 3, 4, 10, 11, 12, 13, 14, 15, 16, 17, 18, 19, 20, 21, 22, 23, 24, 25, 26, 27, 28, 29, 30, 31, 32, 33, 34, 35, 36, 37, 38, 39, 40, 41, 42, 43, 44, 45, 46, 47, 48, 49, 50, 51, 52, 53, 54, 55, 56, 57, 58, 59, 60, 61, 62, 63, 64, 65, 66, 67, 68, 69, 70, 71, 72, 73, 74, 75, 76, 77, 78, 79, 80, 81, 82, 83, 84, 85, 86, 87, 88, 89, 90, 91, 92, 93, 94, 95, 96, 97, 98, 99, 100, 101, 102, 103, 104, 105, 106, 107, 108, 109, 110, 111, 112, 113, 114, 115, 116, 117, 118, 119, 120, 121, 122, 123, 124, 125, 126, 127, 128, 129, 130, 131, 132, 133, 134, 135, 136, 137, 138, 139, 140, 141, 142, 143, 144, 145, 146, 147, 148, 149, 150, 151, 152, 153, 154, 155, 156, 157, 158, 159, 160, 161, 162, 163, 164, 165, 166, 167, 168, 169, 170, 171, 172, 173, 174, 175, 176, 177, 178, 179, 180, 181, 182, 183, 184, 185, 186, 187, 188, 189, 190, 191, 192, 193, 194, 195, 196, 197, 198, 199, 200, 201, 202, 203, 204, 205, 206, 207, 208] (.loop b3_31)))) (.clear [0, 3, 4, 9, 10, 11, 12, 13, 14, 15, 16, 17, 18, 19, 20, 21, 22, 23, 24, 25, 26, 27, 28, 29, 30, 31, 32, 33, 34, 35, 36, 37, 38, 39, 40, 41, 42, 43, 44, 45, 46, 47, 48, 49, 50, 51, 52, 53, 54, 55, 56, 57, 58, 59, 60, 61, 62, 63, 64, 65, 66, 67, 68, 69, 70, 71, 72, 73, 74, 75, 76, 77, 78, 79, 80, 81, 82, 83, 84, 85, 86, 87, 88, 89, 90, 91, 92, 93, 94, 95, 96, 97, 98, 99, 100, 101, 102, 103, 104, 105, 106, 107, 108, 109, 110, 111, 112, 113, 114, 115, 116, 117, 118, 119, 120, 121, 122, 123, 124, 125, 126, 127, 128, 129, 130, 131, 132, 133, 134, 135, 136, 137, 138, 139, 140, 141, 142, 143, 144, 145, 146, 147, 148, 149, 150, 151, 152, 153, 154, 155, 156, 157, 158, 159, 160, 161, 162, 163, 164, 165, 166, 167, 168, 169, 170, 171, 172, 173, 174, 175, 176, 177, 178, 179, 180, 181, 182, 183, 184, 185, 186, 187, 188, 189, 190, 191, 192, 193, 194, 195, 196, 197, 198, 199, 200, 201, 202, 203, 204, 205, 206, 207, 208] c3_44)))) (.clear [0, 3, 4, 7, 8, 9, 10, 11, 12, 13, 14, 15, 16, 17, 18, 19, 20, 21, 22, 23, 24, 25, 26, 27, 28, 29, 30, 31, 32, 33, 34, 35, 36, 37, 38, 39, 40, 41, 42, 43, 44, 45, 46, 47, 48, 49, 50, 51, 52, 53, 54, 55, 56, 57, 58, 59, 60, 61, 62, 63, 64, 65, 66, 67, 68, 69, 70, 71, 72, 73, 74, 75, 76, 77, 78, 79, 80, 81, 82, 83, 84, 85, 86, 87, 88, 89, 90, 91, 92, 93, 94, 95, 96, 97, 98, 99, 100, 101, 102, 103, 104, 105, 106, 107, 108, 109, 110, 111, 112, 113, 114, 115, 116, 117, 118, 119, 120, 121, 122, 123, 124, 125, 126, 127, 128, 129, 130, 131, 132, 133, 134, 135, 136, 137, 138, 139, 140, 141, 142, 143, 144, 145, 146, 147, 148, 149, 150, 151, 152, 153, 154, 155, 156, 157, 158, 159, 160, 161, 162, 163, 164, 165, 166, 167, 168, 169, 170, 171, 172, 173, 174, 175, 176, 177, 178, 179, 180, 181, 182, 183, 184, 185, 186, 187, 188, 189, 190, 191, 192, 193, 194, 195, 196, 197, 198, 199, 200, 201, 202, 203, 204, 205, 206, 207, 208] c3_64))) [0, 3, 4, 7, 8, 9, 10, 11, 12, 13, 14, 15, 16, 17, 18, 19, 20, 21, 22, 23, 24, 25, 26, 27, 28, 29, 30, 31, 32, 33, 34, 35, 36, 37, 38, 39, 40, 41, 42, 43, 44, 45, 46, 47, 48, 49, 50, 51, 52, 53, 54, 55, 56, 57, 58, 59, 60, 61, 62, 63, 64, 65, 66, 67, 68, 69, 70, 71, 72, 73, 74, 75, 76, 77, 78, 79, 80, 81, 82, 83, 84, 85, 86, 87, 88, 89, 90, 91, 92, 93, 94, 95, 96, 97, 98, 99, 100, 101, 102, 103, 104, 105, 106, 107, 108, 109, 110, 111, 112, 113, 114, 115, 116, 117, 118, 119, 120, 121, 122, 123, 124, 125, 126, 127, 128, 129, 130, 131, 132, 133, 134, 135, 136, 137, 138, 139, 140, 141, 142, 143, 144, 145, 146, 147, 148, 149, 150, 151, 152, 153, 154, 155, 156, 157, 158, 159, 160, 161, 162, 163, 164, 165, 166, 167, 168, 169, 170, 171, 172, 173, 174, 175, 176, 177, 178, 179, 180, 181, 182, 183, 184, 185, 186, 187, 188, 189, 190, 191, 192, 193, 194, 195, 196, 197, 198, 199, 200, 201, 202, 203, 204, 205, 206, 207, 208]
def o3_66 : List AOper := [⟨some 88, .mv (.tmp 1), none⟩,
  ⟨some 89, .conv .i64 (.tmp 88), none⟩,
  ⟨some 90, .fieldAddr 0 (.tmp 2), none⟩,
  ⟨some 91, .load false [.int .i64] (.tmp 90), none⟩,
  ⟨some 92, .bin .rem (.tmp 89) (.tmp 91), none⟩,
  ⟨some 11, .mv (.tmp 92), none⟩]
def o3_68 : List (AOper × Option Nat) := [(⟨some 94, .load true [.int .i64, .int .i64, .slice] (.tmp 2), none⟩, none),
  (⟨some 95, .call false (.func 9) [.tmp 94] [(true, [.int .i64, .int .i64, .slice])] true, none⟩, none),
  (⟨some 96, .mv (.tmp 11), none⟩, none),
  (⟨some 97, .fieldAddr 0 (.tmp 2), none⟩, none),
  (⟨some 98, .load false [.int .i64] (.tmp 97), none⟩, none),
  (⟨some 99, .mv (.tmp 11), none⟩, none),
  (⟨some 100, .bin .sub (.tmp 98) (.tmp 99), none⟩, none),
  (⟨some 101, .fieldAddr 1 (.tmp 2), none⟩, none),
  (⟨some 102, .load false [.int .i64] (.tmp 101), none⟩, none),
  (⟨some 103, .call false (.func 10) [.tmp 95, .tmp 96, .const (.int .i64 0), .tmp 100, .tmp 102] [(true, [.int .i64, .int .i64, .slice]), (false, [.bool])] false, none⟩, none),
  (⟨some 93, .mv (.tmp 103), none⟩, none),
  (⟨some 104, .extract (.tmp 93) 0, none⟩, none),
  (⟨some 105, .extract (.tmp 93) 1, none⟩, none),
  (⟨some 12, .nilCheck (.tmp 12), none⟩, none),
  (⟨none, .store 3 (.tmp 12) (.tmp 104), none⟩, none),
  (⟨some 13, .mv (.tmp 105), none⟩, none)]
def f3_68 : List AOper := [⟨some 12, .alloc [.int .i64 0, .int .i64 0, .slice none 0 0], none⟩]
def o3_70 : List (AOper × Option Nat) := [(⟨some 107, .load true [.int .i64, .int .i64, .slice] (.tmp 2), none⟩, none),
  (⟨some 108, .call false (.func 9) [.tmp 107] [(true, [.int .i64, .int .i64, .slice])] true, none⟩, none),
  (⟨some 109, .mv (.tmp 11), none⟩, none),
  (⟨some 110, .fieldAddr 1 (.tmp 2), none⟩, none),
  (⟨some 111, .load false [.int .i64] (.tmp 110), none⟩, none),
  (⟨some 112, .call false (.func 10) [.tmp 108, .const (.int .i64 0), .const (.int .i64 0), .tmp 109, .tmp 111] [(true, [.int .i64, .int .i64, .slice]), (false, [.bool])] false, none⟩, none),
  (⟨some 106, .mv (.tmp 112), none⟩, none),
  (⟨some 113, .extract (.tmp 106) 0, none⟩, none),
  (⟨some 114, .extract (.tmp 106) 1, none⟩, none),
  (⟨some 14, .nilCheck (.tmp 14), none⟩, none),
  (⟨none, .store 3 (.tmp 14) (.tmp 113), none⟩, none),
  (⟨some 15, .mv (.tmp 114), none⟩, none)]
def f3_70 : List AOper := [⟨some 14, .alloc [.int .i64 0, .int .i64 0, .slice none 0 0], none⟩]
def o3_73 : List AOper := [⟨some 115, .mv (.tmp 13), none⟩,
  ⟨some 116, .un .not (.tmp 115), none⟩,
  ⟨some 117, .mv (.tmp 116), none⟩,
  ⟨some 118, .mv (.tmp 15), some (117, false)⟩,
  ⟨some 119, .mv (.tmp 11), some (117, false)⟩,
  ⟨some 120, .bin .gtr (.tmp 119) (.const (.int .i64 0)), some (117, false)⟩,
  ⟨some 121, .binB true (.tmp 118) (.tmp 120), some (117, false)⟩,
  ⟨some 122, .pick (.tmp 117) (.const (.bool true)) (.tmp 121), none⟩,
  ⟨some 123, .mv (.tmp 122), none⟩,
  ⟨some 124, .fieldAddr 2 (.tmp 12), some (123, false)⟩,
  ⟨some 125, .load false [.slice] (.tmp 124), some (123, false)⟩,
  ⟨some 126, .len (.tmp 125), some (123, false)⟩,
  ⟨some 127, .fieldAddr 0 (.tmp 2), some (123, false)⟩,
  ⟨some 128, .load false [.int .i64] (.tmp 127), some (123, false)⟩,
  ⟨some 129, .mv (.tmp 11), some (123, false)⟩,
  ⟨some 130, .bin .sub (.tmp 128) (.tmp 129), some (123, false)⟩,
  ⟨some 131, .fieldAddr 1 (.tmp 2), some (123, false)⟩,
  ⟨some 132, .load false [.int .i64] (.tmp 131), some (123, false)⟩,
  ⟨some 133, .bin .mul (.tmp 130) (.tmp 132), some (123, false)⟩,
  ⟨some 134, .bin .neq (.tmp 126) (.tmp 133), some (123, false)⟩,
  ⟨some 135, .pick (.tmp 123) (.const (.bool true)) (.tmp 134), none⟩,
  ⟨some 136, .mv (.tmp 135), none⟩,
  ⟨some 137, .fieldAddr 2 (.tmp 14), some (136, false)⟩,
  ⟨some 138, .load false [.slice] (.tmp 137), some (136, false)⟩,
  ⟨some 139, .len (.tmp 138), some (136, false)⟩,
  ⟨some 140, .mv (.tmp 11), some (136, false)⟩,
  ⟨some 141, .fieldAddr 1 (.tmp 2), some (136, false)⟩,
  ⟨some 142, .load false [.int .i64] (.tmp 141), some (136, false)⟩,
  ⟨some 143, .bin .mul (.tmp 140) (.tmp 142), some (136, false)⟩,
  ⟨some 144, .bin .neq (.tmp 139) (.tmp 143), some (136, false)⟩,
  ⟨some 145, .pick (.tmp 136) (.const (.bool true)) (.tmp 144), none⟩]
def o3_76 : List AOper := [⟨some 4, .mv (.const (.bool false)), none⟩]
def c3_74 : ACode := .cond (.tmp 145) (.seq (.ops o3_76) (.ret)) (.skip)
def o3_81 : List AOper := [⟨some 16, .mv (.const (.int .i64 0)), none⟩]
def o3_86 : List AOper := [⟨some 146, .mv (.tmp 16), none⟩,
  ⟨some 147, .fieldAddr 2 (.tmp 2), none⟩,
  ⟨some 148, .load false [.slice] (.tmp 147), none⟩,
  ⟨some 149, .len (.tmp 148), none⟩,
  ⟨some 150, .bin .lss (.tmp 146) (.tmp 149), none⟩]
def o3_93 : List (AOper × Option Nat) := [(⟨some 153, .mv (.tmp 16), none⟩, none),
  (⟨some 154, .fieldAddr 0 (.tmp 2), none⟩, none),
  (⟨some 155, .load false [.int .i64] (.tmp 154), none⟩, none),
  (⟨some 156, .bin .rem (.tmp 153) (.tmp 155), none⟩, none),
  (⟨some 157, .mv (.tmp 16), none⟩, none),
  (⟨some 158, .fieldAddr 0 (.tmp 2), none⟩, none),
  (⟨some 159, .load false [.int .i64] (.tmp 158), none⟩, none),
  (⟨some 160, .bin .quo (.tmp 157) (.tmp 159), none⟩, none),
  (⟨some 17, .mv (.tmp 156), none⟩, none),
  (⟨some 18, .mv (.tmp 160), none⟩, none)]
def o3_95 : List (AOper × Option Nat) := [(⟨some 161, .mv (.tmp 17), none⟩, none),
  (⟨some 162, .mv (.tmp 11), none⟩, none),
  (⟨some 163, .bin .geq (.tmp 161) (.tmp 162), none⟩, none),
  (⟨some 164, .mv (.tmp 163), none⟩, none),
  (⟨some 165, .fieldAddr 2 (.tmp 12), some (164, true)⟩, none),
  (⟨some 166, .load false [.slice] (.tmp 165), some (164, true)⟩, none),
  (⟨some 167, .mv (.tmp 18), some (164, true)⟩, none),
  (⟨some 168, .fieldAddr 0 (.tmp 2), some (164, true)⟩, none),
  (⟨some 169, .load false [.int .i64] (.tmp 168), some (164, true)⟩, none),
  (⟨some 170, .mv (.tmp 11), some (164, true)⟩, none),
  (⟨some 171, .bin .sub (.tmp 169) (.tmp 170), some (164, true)⟩, none),
  (⟨some 172, .bin .mul (.tmp 167) (.tmp 171), some (164, true)⟩, none),
  (⟨some 173, .mv (.tmp 17), some (164, true)⟩, none),
  (⟨some 174, .bin .add (.tmp 172) (.tmp 173), some (164, true)⟩, none),
  (⟨some 175, .mv (.tmp 11), some (164, true)⟩, none),
  (⟨some 176, .bin .sub (.tmp 174) (.tmp 175), some (164, true)⟩, none),
  (⟨some 177, .indexAddr 3 (.tmp 166) (.tmp 176), some (164, true)⟩, none),
  (⟨some 178, .load true [.int .i64, .int .i64, .int .i64] (.tmp 177), some (164, true)⟩, none),
  (⟨some 179, .fieldAddr 2 (.tmp 2), some (164, true)⟩, none),
  (⟨some 180, .load false [.slice] (.tmp 179), some (164, true)⟩, none),
  (⟨some 181, .mv (.tmp 16), some (164, true)⟩, none),
  (⟨some 182, .indexAddr 3 (.tmp 180) (.tmp 181), some (164, true)⟩, none),
  (⟨some 183, .load true [.int .i64, .int .i64, .int .i64] (.tmp 182), some (164, true)⟩, none),
  (⟨some 184, .eqAgg [.int .i64, .int .i64, .int .i64] true (.tmp 178) (.tmp 183), some (164, true)⟩, none),
  (⟨some 185, .pick (.tmp 164) (.tmp 184) (.const (.bool false)), none⟩, none),
  (⟨some 186, .mv (.tmp 185), none⟩, none),
  (⟨some 187, .mv (.tmp 17), some (186, false)⟩, none),
  (⟨some 188, .mv (.tmp 11), some (186, false)⟩, none),
  (⟨some 189, .bin .lss (.tmp 187) (.tmp 188), some (186, false)⟩, none),
  (⟨some 190, .mv (.tmp 189), some (186, false)⟩, none),
  (⟨some 191, .fieldAddr 2 (.tmp 14), some (190, true)⟩, none),
  (⟨some 192, .load false [.slice] (.tmp 191), some (190, true)⟩, none),
  (⟨some 193, .mv (.tmp 18), some (190, true)⟩, none),
  (⟨some 194, .mv (.tmp 11), some (190, true)⟩, none),
  (⟨some 195, .bin .mul (.tmp 193) (.tmp 194), some (190, true)⟩, none),
  (⟨some 196, .mv (.tmp 17), some (190, true)⟩, none),
  (⟨some 197, .bin .add (.tmp 195) (.tmp 196), some (190, true)⟩, none),
  (⟨some 198, .indexAddr 3 (.tmp 192) (.tmp 197), some (190, true)⟩, none),
  (⟨some 199, .load true [.int .i64, .int .i64, .int .i64] (.tmp 198), some (190, true)⟩, none),
  (⟨some 200, .fieldAddr 2 (.tmp 2), some (190, true)⟩, none),
  (⟨some 201, .load false [.slice] (.tmp 200), some (190, true)⟩, none),
  (⟨some 202, .mv (.tmp 16), some (190, true)⟩, none),
  (⟨some 203, .indexAddr 3 (.tmp 201) (.tmp 202), some (190, true)⟩, none),
  (⟨some 204, .load true [.int .i64, .int .i64, .int .i64] (.tmp 203), some (190, true)⟩, none),
  (⟨some 205, .eqAgg [.int .i64, .int .i64, .int .i64] true (.tmp 199) (.tmp 204), some (190, true)⟩, none),
  (⟨some 206, .pick (.tmp 190) (.tmp 205) (.const (.bool false)), some (186, false)⟩, none),
  (⟨some 207, .pick (.tmp 186) (.const (.bool true)) (.tmp 206), none⟩, none)]
def o3_98 : List AOper := [⟨some 4, .mv (.const (.bool false)), none⟩]
def c3_96 : ACode := .cond (.tmp 207) (.seq (.ops o3_98) (.ret)) (.skip)
def o3_101 : List AOper := [⟨some 151, .mv (.tmp 16), none⟩,
  ⟨some 152, .bin .add (.tmp 151) (.const (.int .i64 1)), none⟩,
  ⟨some 16, .mv (.tmp 152), none⟩]
def c3_101 : ACode := .ops o3_101
def b3_83 : ACode := .post (.seq (.seq (.ops o3_86) (.cond (.tmp 150) (.skip) (.exit 6))) (.seq (.block 7 (.seq (.draw [] 0 o3_93 []) (.seq (.draw [] 0 o3_95 []) (.clear [0, 1, 3, 4, 5, 6, 7, 8, 9, 10, 13, 15, 17, 18, 19, 20, 21, 22, 23, 24, 25, 26, 27, 28, 29, 30, 31, 32, 33, 34, 35, 36, 37, 38, 39, 40, 41, 42, 43, 44, 45, 46, 47, 48, 49, 50, 51, 52, 53, 54, 55, 56, 57, 58, 59, 60, 61, 62, 63, 64, 65, 66, 67, 68, 69, 70, 71, 72, 73, 74, 75, 76, 77, 78, 79, 80, 81, 82, 83, 84, 85, 86, 87, 88, 89, 90, 91, 92, 93, 94, 95, 96, 97, 98, 99, 100, 101, 102, 103, 104, 105, 106, 107, 108, 109, 110, 111, 112, 113, 114, 115, 116, 117, 118, 119, 120, 121, 122, 123, 124, 125, 126, 127, 128, 129, 130, 131, 132, 133, 134, 135, 136, 137, 138, 139, 140, 141, 142, 143, 144, 145, 146, 147, 148, 149, 150, 151, 152, 153, 154, 155, 156, 157, 158, 159, 160, 161, 162, 163, 164, 165, 166, 167, 168, 169, 170, 171, 172, 173, 174, 175, 176, 177, 178, 179, 180, 181, 182, 183, 184, 185, 186, 187, 188, 189, 190, 191, 192, 193, 194, 195, 196, 197, 198, 199, 200, 201, 202, 203, 204, 205, 206, 208] c3_96)))) (.clear [0, 1, 3, 4, 5, 6, 7, 8, 9, 10, 13, 15, 17, 18, 19, 20, 21, 22, 23, 24, 25, 26, 27, 28, 29, 30, 31, 32, 33, 34, 35, 36, 37, 38, 39, 40, 41, 42, 43, 44, 45, 46, 47, 48, 49, 50, 51, 52, 53, 54, 55, 56, 57, 58, 59, 60, 61, 62, 63, 64, 65, 66, 67, 68, 69, 70, 71, 72, 73, 74, 75, 76, 77, 78, 79, 80, 81, 82, 83, 84, 85, 86, 87, 88, 89, 90, 91, 92, 93, 94, 95, 96, 97, 98, 99, 100, 101, 102, 103, 104, 105, 106, 107, 108, 109, 110, 111, 112, 113, 114, 115, 116, 117, 118, 119, 120, 121, 122, 123, 124, 125, 126, 127, 128, 129, 130, 131, 132, 133, 134, 135, 136, 137, 138, 139, 140, 141, 142, 143, 144, 145, 146, 147, 148, 149, 150, 151, 152, 153, 154, 155, 156, 157, 158, 159, 160, 161, 162, 163, 164, 165, 166, 167, 168, 169, 170, 171, 172, 173, 174, 175, 176, 177, 178, 179, 180, 181, 182, 183, 184, 185, 186, 187, 188, 189, 190, 191, 192, 193, 194, 195, 196, 197, 198, 199, 200, 201, 202, 203, 204, 205, 206, 207, 208] c3_101))) [0, 1, 3, 4, 5, 6, 7, 8, 9, 10, 13, 15, 17, 18, 19, 20, 21, 22, 23, 24, 25, 26, 27, 28, 29, 30, 31, 32, 33, 34, 35, 36, 37, 38, 39, 40, 41, 42, 43, 44, 45, 46, 47, 48, 49, 50, 51, 52, 53, 54, 55, 56, 57, 58, 59, 60, 61, 62, 63, 64, 65, 66, 67, 68, 69, 70, 71, 72, 73, 74, 75, 76, 77, 78, 79, 80, 81, 82, 83, 84, 85, 86, 87, 88, 89, 90, 91, 92, 93, 94, 95, 96, 97, 98, 99, 100, 101, 102, 103, 104, 105, 106, 107, 108, 109, 110, 111, 112, 113, 114, 115, 116, 117, 118, 119, 120, 121, 122, 123, 124, 125, 126, 127, 128, 129, 130, 131, 132, 133, 134, 135, 136, 137, 138, 139, 140, 141, 142, 143, 144, 145, 146, 147, 148, 149, 150, 151, 152, 153, 154, 155, 156, 157, 158, 159, 160, 161, 162, 163, 164, 165, 166, 167, 168, 169, 170, 171, 172, 173, 174, 175, 176, 177, 178, 179, 180, 181, 182, 183, 184, 185, 186, 187, 188, 189, 190, 191, 192, 193, 194, 195, 196, 197, 198, 199, 200, 201, 202, 203, 204, 205, 206, 207, 208]
def o3_103 : List AOper := [⟨some 208, .call true (.func 7) [] [(false, [.bool])] true, none⟩,
  ⟨some 4, .mv (.tmp 208), none⟩]
def c3_102 : ACode := .seq (.ops o3_103) (.ret)
def c3_71 : ACode := .seq (.seq (.ops o3_73) (.clear [0, 1, 3, 4, 5, 6, 7, 8, 9, 10, 13, 15, 16, 17, 18, 19, 20, 21, 22, 23, 24, 25, 26, 27, 28, 29, 30, 31, 32, 33, 34, 35, 36, 37, 38, 39, 40, 41, 42, 43, 44, 45, 46, 47, 48, 49, 50, 51, 52, 53, 54, 55, 56, 57, 58, 59, 60, 61, 62, 63, 64, 65, 66, 67, 68, 69, 70, 71, 72, 73, 74, 75, 76, 77, 78, 79, 80, 81, 82, 83, 84, 85, 86, 87, 88, 89, 90, 91, 92, 93, 94, 95, 96, 97, 98, 99, 100, 101, 102, 103, 104, 105, 106, 107, 108, 109, 110, 111, 112, 113, 114, 115, 116, 117, 118, 119, 120, 121, 122, 123, 124, 125, 126, 127, 128, 129, 130, 131, 132, 133, 134, 135, 136, 137, 138, 139, 140, 141, 142, 143, 144, 146, 147, 148, 149, 150, 151, 152, 153, 154, 155, 156, 157, 158, 159, 160, 161, 162, 163, 164, 165, 166, 167, 168, 169, 170, 171, 172, 173, 174, 175, 176, 177, 178, 179, 180, 181, 182, 183, 184, 185, 186, 187, 188, 189, 190, 191, 192, 193, 194, 195, 196, 197, 198, 199, 200, 201, 202, 203, 204, 205, 206, 207, 208] c3_74)) (.seq (.seq (.ops o3_81) (.block 6 (.clear [0, 1, 3, 4, 5, 6, 7, 8, 9, 10, 13, 15, 17, 18, 19, 20, 21, 22, 23, 24, 25, 26, 27, 28, 29, 30, 31, 32, 33, 34, 35, 36, 37, 38, 39, 40, 41, 42, 43, 44, 45, 46, 47, 48, 49, 50, 51, 52, 53, 54, 55, 56, 57, 58, 59, 60, 61, 62, 63, 64, 65, 66, 67, 68, 69, 70, 71, 72, 73, 74, 75, 76, 77, 78, 79, 80, 81, 82, 83, 84, 85, 86, 87, 88, 89, 90, 91, 92, 93, 94, 95, 96, 97, 98, 99, 100, 101, 102, 103, 104, 105, 106, 107, 108, 109, 110, 111, 112, 113, 114, 115, 116, 117, 118, 119, 120, 121, 122, 123, 124, 125, 126, 127, 128, 129, 130, 131, 132, 133, 134, 135, 136, 137, 138, 139, 140, 141, 142, 143, 144, 145, 146, 147, 148, 149, 150, 151, 152, 153, 154, 155, 156, 157, 158, 159, 160, 161, 162, 163, 164, 165, 166, 167, 168, 169, 170, 171, 172, 173, 174, 175, 176, 177, 178, 179, 180, 181, 182, 183, 184, 185, 186, 187, 188, 189, 190, 191, 192, 193, 194, 195, 196, 197, 198, 199, 200, 201, 202, 203, 204, 205, 206, 207, 208] (.loop b3_83)))) (.clear [0, 1, 2, 3, 4, 5, 6, 7, 8, 9, 10, 11, 12, 13, 14, 15, 16, 17, 18, 19, 20, 21, 22, 23, 24, 25, 26, 27, 28, 29, 30, 31, 32, 33, 34, 35, 36, 37, 38, 39, 40, 41, 42, 43, 44, 45, 46, 47, 48, 49, 50, 51, 52, 53, 54, 55, 56, 57, 58, 59, 60, 61, 62, 63, 64, 65, 66, 67, 68, 69, 70, 71, 72, 73, 74, 75, 76, 77, 78, 79, 80, 81, 82, 83, 84, 85, 86, 87, 88, 89, 90, 91, 92, 93, 94, 95, 96, 97, 98, 99, 100, 101, 102, 103, 104, 105, 106, 107, 108, 109, 110, 111, 112, 113, 114, 115, 116, 117, 118, 119, 120, 121, 122, 123, 124, 125, 126, 127, 128, 129, 130, 131, 132, 133, 134, 135, 136, 137, 138, 139, 140, 141, 142, 143, 144, 145, 146, 147, 148, 149, 150, 151, 152, 153, 154, 155, 156, 157, 158, 159, 160, 161, 162, 163, 164, 165, 166, 167, 168, 169, 170, 171, 172, 173, 174, 175, 176, 177, 178, 179, 180, 181, 182, 183, 184, 185, 186, 187, 188, 189, 190, 191, 192, 193, 194, 195, 196, 197, 198, 199, 200, 201, 202, 203, 204, 205, 206, 207, 208] c3_102))
def c3_65 : ACode := .seq (.ops o3_66) (.seq (.draw f3_68 0 o3_68 [(4, 1), (8, 1), (13, 1), (13, 9)]) (.seq (.draw f3_70 0 o3_70 [(4, 1), (9, 1), (9, 5)]) (.clear [0, 1, 3, 4, 5, 6, 7, 8, 9, 10, 16, 17, 18, 19, 20, 21, 22, 23, 24, 25, 26, 27, 28, 29, 30, 31, 32, 33, 34, 35, 36, 37, 38, 39, 40, 41, 42, 43, 44, 45, 46, 47, 48, 49, 50, 51, 52, 53, 54, 55, 56, 57, 58, 59, 60, 61, 62, 63, 64, 65, 66, 67, 68, 69, 70, 71, 72, 73, 74, 75, 76, 77, 78, 79, 80, 81, 82, 83, 84, 85, 86, 87, 88, 89, 90, 91, 92, 93, 94, 95, 96, 97, 98, 99, 100, 101, 102, 103, 104, 105, 106, 107, 108, 109, 110, 111, 112, 113, 114, 115, 116, 117, 118, 119, 120, 121, 122, 123, 124, 125, 126, 127, 128, 129, 130, 131, 132, 133, 134, 135, 136, 137, 138, 139, 140, 141, 142, 143, 144, 145, 146, 147, 148, 149, 150, 151, 152, 153, 154, 155, 156, 157, 158, 159, 160, 161, 162, 163, 164, 165, 166, 167, 168, 169, 170, 171, 172, 173, 174, 175, 176, 177, 178, 179, 180, 181, 182, 183, 184, 185, 186, 187, 188, 189, 190, 191, 192, 193, 194, 195, 196, 197, 198, 199, 200, 201, 202, 203, 204, 205, 206, 207, 208] c3_71)))
def c3_0 : ACode := .seq (.ops o3_1) (.seq (.seq (.ops o3_4) (.cond (.tmp 27) (.seq (.ops o3_7) (.ret)) (.skip))) (.seq (.ops o3_11) (.seq (.seq (.ops o3_14) (.block 0 (.clear [0, 3, 4, 7, 8, 9, 10, 11, 12, 13, 14, 15, 16, 17, 18, 19, 20, 21, 22, 23, 24, 25, 26, 27, 28, 29, 30, 31, 32, 33, 34, 35, 36, 37, 38, 39, 40, 41, 42, 43, 44, 45, 46, 47, 48, 49, 50, 51, 52, 53, 54, 55, 56, 57, 58, 59, 60, 61, 62, 63, 64, 65, 66, 67, 68, 69, 70, 71, 72, 73, 74, 75, 76, 77, 78, 79, 80, 81, 82, 83, 84, 85, 86, 87, 88, 89, 90, 91, 92, 93, 94, 95, 96, 97, 98, 99, 100, 101, 102, 103, 104, 105, 106, 107, 108, 109, 110, 111, 112, 113, 114, 115, 116, 117, 118, 119, 120, 121, 122, 123, 124, 125, 126, 127, 128, 129, 130, 131, 132, 133, 134, 135, 136, 137, 138, 139, 140, 141, 142, 143, 144, 145, 146, 147, 148, 149, 150, 151, 152, 153, 154, 155, 156, 157, 158, 159, 160, 161, 162, 163, 164, 165, 166, 167, 168, 169, 170, 171, 172, 173, 174, 175, 176, 177, 178, 179, 180, 181, 182, 183, 184, 185, 186, 187, 188, 189, 190, 191, 192, 193, 194, 195, 196, 197, 198, 199, 200, 201, 202, 203, 204, 205, 206, 207, 208] (.loop b3_16)))) (.clear [0, 3, 4, 5, 6, 7, 8, 9, 10, 11, 12, 13, 14, 15, 16, 17, 18, 19, 20, 21, 22, 23, 24, 25, 26, 27, 28, 29, 30, 31, 32, 33, 34, 35, 36, 37, 38, 39, 40, 41, 42, 43, 44, 45, 46, 47, 48, 49, 50, 51, 52, 53, 54, 55, 56, 57, 58, 59, 60, 61, 62, 63, 64, 65, 66, 67, 68, 69, 70, 71, 72, 73, 74, 75, 76, 77, 78, 79, 80, 81, 82, 83, 84, 85, 86, 87, 88, 89, 90, 91, 92, 93, 94, 95, 96, 97, 98, 99, 100, 101, 102, 103, 104, 105, 106, 107, 108, 109, 110, 111, 112, 113, 114, 115, 116, 117, 118, 119, 120, 121, 122, 123, 124, 125, 126, 127, 128, 129, 130, 131, 132, 133, 134, 135, 136, 137, 138, 139, 140, 141, 142, 143, 144, 145, 146, 147, 148, 149, 150, 151, 152, 153, 154, 155, 156, 157, 158, 159, 160, 161, 162, 163, 164, 165, 166, 167, 168, 169, 170, 171, 172, 173, 174, 175, 176, 177, 178, 179, 180, 181, 182, 183, 184, 185, 186, 187, 188, 189, 190, 191, 192, 193, 194, 195, 196, 197, 198, 199, 200, 201, 202, 203, 204, 205, 206, 207, 208] c3_65))))
def a3 : AFun := ⟨209, [.tmp 4], c3_0⟩
theorem ok3 : OkFun Try.prog 3 a3 := ⟨Try.f3, Try.f3.body.getD .skip, Try.func3, by kernel_rfl, by kernel_rfl, by kernel_rfl, by kernel_rfl, by kernel_rfl⟩
/-! #### skylightlaw51.MipBack -/
def o4_1 : List AOper := [⟨some 3, .box (.tmp 0), none⟩,
  ⟨some 6, .mv (.const (.bool false)), none⟩]
def o4_4 : List AOper := [⟨some 15, .load true [.int .i64, .int .i64, .slice] (.tmp 3), none⟩,
  ⟨some 16, .call false (.func 6) [.tmp 15] [(false, [.bool])] true, none⟩,
  ⟨some 17, .un .not (.tmp 16), none⟩,
  ⟨some 18, .mv (.tmp 17), none⟩,
  ⟨some 19, .fieldAddr 2 (.tmp 3), some (18, false)⟩,
  ⟨some 20, .load false [.slice] (.tmp 19), some (18, false)⟩,
  ⟨some 21, .len (.tmp 20), some (18, false)⟩,
  ⟨some 22, .bin .gtr (.tmp 21) (.const (.int .i64 40)), some (18, false)⟩,
  ⟨some 23, .pick (.tmp 18) (.const (.bool true)) (.tmp 22), none⟩]
def o4_7 : List AOper := [⟨some 24, .call true (.func 7) [] [(false, [.bool])] true, none⟩,
  ⟨some 6, .mv (.tmp 24), none⟩]
def o4_11 : List (AOper × Option Nat) := [(⟨some 25, .fieldAddr 0 (.tmp 3), none⟩, none),
  (⟨some 26, .load false [.int .i64] (.tmp 25), none⟩, none),
  (⟨some 27, .bin .mul (.const (.int .i64 2)) (.tmp 26), none⟩, none),
  (⟨some 28, .fieldAddr 1 (.tmp 3), none⟩, none),
  (⟨some 29, .load false [.int .i64] (.tmp 28), none⟩, none),
  (⟨some 30, .bin .mul (.const (.int .i64 2)) (.tmp 29), none⟩, none),
  (⟨some 7, .mv (.tmp 27), none⟩, none),
  (⟨some 8, .mv (.tmp 30), none⟩, none)]
def o4_14 : List AOper := [⟨some 31, .mv (.tmp 1), none⟩]
def o4_16 : List AOper := [⟨some 32, .mv (.tmp 7), none⟩,
  ⟨some 33, .bin .sub (.tmp 32) (.const (.int .i64 1)), none⟩,
  ⟨some 7, .mv (.tmp 33), none⟩]
def o4_20 : List AOper := [⟨some 34, .mv (.tmp 2), none⟩]
def o4_22 : List AOper := [⟨some 35, .mv (.tmp 8), none⟩,
  ⟨some 36, .bin .sub (.tmp 35) (.const (.int .i64 1)), none⟩,
  ⟨some 8, .mv (.tmp 36), none⟩]
def o4_25 : List AOper := [⟨some 38, .load true [.int .i64, .int .i64, .slice] (.tmp 3), none⟩,
  ⟨some 39, .call false (.func 9) [.tmp 38] [(true, [.int .i64, .int .i64, .slice])] true, none⟩,
  ⟨some 40, .mv (.tmp 7), none⟩,
  ⟨some 41, .mv (.tmp 8), none⟩,
  ⟨some 42, .call false (.func 11) [.tmp 39, .tmp 40, .tmp 41] [(true, [.int .i64, .int .i64, .slice]), (false, [.bool])] false, none⟩,
  ⟨some 37, .mv (.tmp 42), none⟩,
  ⟨some 43, .extract (.tmp 37) 0, none⟩,
  ⟨some 44, .extract (.tmp 37) 1, none⟩,
  ⟨some 9, .alloc [.int .i64 0, .int .i64 0, .slice none 0 0], none⟩,
  ⟨none, .store 3 (.tmp 9) (.tmp 43), none⟩,
  ⟨some 10, .mv (.tmp 44), none⟩]
def o4_27 : List AOper := [⟨some 46, .load true [.int .i64, .int .i64, .slice] (.tmp 3), none⟩,
  ⟨some 47, .call false (.func 9) [.tmp 46] [(true, [.int .i64, .int .i64, .slice])] true, none⟩,
  ⟨some 48, .mv (.tmp 7), none⟩,
  ⟨some 49, .bin .add (.tmp 48) (.const (.int .i64 2)), none⟩,
  ⟨some 50, .mv (.tmp 8), none⟩,
  ⟨some 51, .call false (.func 11) [.tmp 47, .tmp 49, .tmp 50] [(true, [.int .i64, .int .i64, .slice]), (false, [.bool])] false, none⟩,
  ⟨some 45, .mv (.tmp 51), none⟩,
  ⟨some 52, .extract (.tmp 45) 0, none⟩,
  ⟨some 53, .extract (.tmp 45) 1, none⟩,
  ⟨some 11, .alloc [.int .i64 0, .int .i64 0, .slice none 0 0], none⟩,
  ⟨none, .store 3 (.tmp 11) (.tmp 52), none⟩,
  ⟨some 12, .mv (.tmp 53), none⟩]
def o4_30 : List (AOper × Option Nat) := [(⟨some 54, .mv (.tmp 10), none⟩, none),
  (⟨some 55, .un .not (.tmp 54), none⟩, none),
  (⟨some 56, .mv (.tmp 55), none⟩, none),
  (⟨some 57, .mv (.tmp 12), some (56, false)⟩, none),
  (⟨some 58, .pick (.tmp 56) (.const (.bool true)) (.tmp 57), none⟩, none),
  (⟨some 59, .mv (.tmp 58), none⟩, none),
  (⟨some 60, .fieldAddr 0 (.tmp 9), some (59, false)⟩, none),
  (⟨some 61, .load false [.int .i64] (.tmp 60), some (59, false)⟩, none),
  (⟨some 62, .mv (.tmp 7), some (59, false)⟩, none),
  (⟨some 63, .bin .neq (.tmp 61) (.tmp 62), some (59, false)⟩, none),
  (⟨some 64, .pick (.tmp 59) (.const (.bool true)) (.tmp 63), none⟩, none),
  (⟨some 65, .mv (.tmp 64), none⟩, none),
  (⟨some 66, .fieldAddr 1 (.tmp 9), some (65, false)⟩, none),
  (⟨some 67, .load false [.int .i64] (.tmp 66), some (65, false)⟩, none),
  (⟨some 68, .mv (.tmp 8), some (65, false)⟩, none),
  (⟨some 69, .bin .neq (.tmp 67) (.tmp 68), some (65, false)⟩, none),
  (⟨some 70, .pick (.tmp 65) (.const (.bool true)) (.tmp 69), none⟩, none),
  (⟨some 71, .mv (.tmp 70), none⟩, none),
  (⟨some 72, .load true [.int .i64, .int .i64, .slice] (.tmp 9), some (71, false)⟩, none),
  (⟨some 73, .call false (.func 8) [.tmp 72] [(true, [.int .i64, .int .i64, .slice])] true, some (71, false)⟩, none),
  (⟨some 74, .call false (.func 13) [.tmp 73] [(true, [.int .i64, .int .i64, .slice])] true, some (71, false)⟩, none),
  (⟨some 75, .load true [.int .i64, .int .i64, .slice] (.tmp 3), some (71, false)⟩, none),
  (⟨some 76, .call false (.func 12) [.tmp 74, .tmp 75] [(false, [.bool])] true, some (71, false)⟩, none),
  (⟨some 77, .un .not (.tmp 76), some (71, false)⟩, none),
  (⟨some 78, .pick (.tmp 71) (.const (.bool true)) (.tmp 77), none⟩, none)]
def o4_33 : List AOper := [⟨some 6, .mv (.const (.bool false)), none⟩]
def c4_31 : ACode := .cond (.tmp 78) (.seq (.ops o4_33) (.ret)) (.skip)
def o4_37 : List AOper := [⟨some 79, .load true [.int .i64, .int .i64, .slice] (.tmp 3), none⟩,
  ⟨some 80, .call false (.func 9) [.tmp 79] [(true, [.int .i64, .int .i64, .slice])] true, none⟩,
  ⟨some 81, .call false (.func 14) [.tmp 80] [(false, [.slice])] true, none⟩,
  ⟨some 13, .mv (.tmp 81), none⟩]
def o4_40 : List (AOper × Option Nat) := [(⟨some 82, .mv (.tmp 13), none⟩, none),
  (⟨some 83, .len (.tmp 82), none⟩, none),
  (⟨some 84, .bin .eql (.tmp 83) (.const (.int .i64 0)), none⟩, none),
  (⟨some 85, .mv (.tmp 84), none⟩, none),
  (⟨some 86, .mv (.tmp 13), some (85, false)⟩, none),
  (⟨some 87, .len (.tmp 86), some (85, false)⟩, none),
  (⟨some 88, .fieldAddr 0 (.tmp 3), some (85, false)⟩, none),
  (⟨some 89, .load false [.int .i64] (.tmp 88), some (85, false)⟩, none),
  (⟨some 90, .fieldAddr 1 (.tmp 3), some (85, false)⟩, none),
  (⟨some 91, .load false [.int .i64] (.tmp 90), some (85, false)⟩, none),
  (⟨some 92, .call true (.func 15) [.tmp 89, .tmp 91] [(false, [.int .i64])] true, some (85, false)⟩, none),
  (⟨some 93, .bin .neq (.tmp 87) (.tmp 92), some (85, false)⟩, none),
  (⟨some 94, .pick (.tmp 85) (.const (.bool true)) (.tmp 93), none⟩, none),
  (⟨some 95, .mv (.tmp 94), none⟩, none),
  (⟨some 96, .mv (.tmp 13), some (95, false)⟩, none),
  (⟨some 97, .indexAddr 3 (.tmp 96) (.const (.int .i64 0)), some (95, false)⟩, none),
  (⟨some 98, .load true [.int .i64, .int .i64, .slice] (.tmp 97), some (95, false)⟩, none),
  (⟨some 99, .call false (.func 13) [.tmp 98] [(true, [.int .i64, .int .i64, .slice])] true, some (95, false)⟩, none),
  (⟨some 100, .load true [.int .i64, .int .i64, .slice] (.tmp 3), some (95, false)⟩, none),
  (⟨some 101, .call false (.func 12) [.tmp 99, .tmp 100] [(false, [.bool])] true, some (95, false)⟩, none),
  (⟨some 102, .un .not (.tmp 101), some (95, false)⟩, none),
  (⟨some 103, .pick (.tmp 95) (.const (.bool true)) (.tmp 102), none⟩, none)]
def o4_43 : List AOper := [⟨some 6, .mv (.const (.bool false)), none⟩]
def o4_48 : List AOper := [⟨some 14, .mv (.const (.int .i64 1)), none⟩]
def o4_53 : List AOper := [⟨some 104, .mv (.tmp 14), none⟩,
  ⟨some 105, .mv (.tmp 13), none⟩,
  ⟨some 106, .len (.tmp 105), none⟩,
  ⟨some 107, .bin .lss (.tmp 104) (.tmp 106), none⟩]
def o4_60 : List (AOper × Option Nat) := [(⟨some 110, .mv (.tmp 13), none⟩, none),
  (⟨some 111, .mv (.tmp 14), none⟩, none),
  (⟨some 112, .indexAddr 3 (.tmp 110) (.tmp 111), none⟩, none),
  (⟨some 113, .fieldAddr 0 (.tmp 112), none⟩, none),
  (⟨some 114, .load false [.int .i64] (.tmp 113), none⟩, none),
  (⟨some 115, .mv (.tmp 13), none⟩, none),
  (⟨some 116, .mv (.tmp 14), none⟩, none),
  (⟨some 117, .bin .sub (.tmp 116) (.const (.int .i64 1)), none⟩, none),
  (⟨some 118, .indexAddr 3 (.tmp 115) (.tmp 117), none⟩, none),
  (⟨some 119, .fieldAddr 0 (.tmp 118), none⟩, none),
  (⟨some 120, .load false [.int .i64] (.tmp 119), none⟩, none),
  (⟨some 121, .bin .add (.tmp 120) (.const (.int .i64 1)), none⟩, none),
  (⟨some 122, .bin .quo (.tmp 121) (.const (.int .i64 2)), none⟩, none),
  (⟨some 123, .bin .neq (.tmp 114) (.tmp 122), none⟩, none),
  (⟨some 124, .mv (.tmp 123), none⟩, none),
  (⟨some 125, .mv (.tmp 13), some (124, false)⟩, none),
  (⟨some 126, .mv (.tmp 14), some (124, false)⟩, none),
  (⟨some 127, .indexAddr 3 (.tmp 125) (.tmp 126), some (124, false)⟩, none),
  (⟨some 128, .fieldAddr 1 (.tmp 127), some (124, false)⟩, none),
  (⟨some 129, .load false [.int .i64] (.tmp 128), some (124, false)⟩, none),
  (⟨some 130, .mv (.tmp 13), some (124, false)⟩, none),
  (⟨some 131, .mv (.tmp 14), some (124, false)⟩, none),
  (⟨some 132, .bin .sub (.tmp 131) (.const (.int .i64 1)), some (124, false)⟩, none),
  (⟨some 133, .indexAddr 3 (.tmp 130) (.tmp 132), some (124, false)⟩, none),
  (⟨some 134, .fieldAddr 1 (.tmp 133), some (124, false)⟩, none),
  (⟨some 135, .load false [.int .i64] (.tmp 134), some (124, false)⟩, none),
  (⟨some 136, .bin .add (.tmp 135) (.const (.int .i64 1)), some (124, false)⟩, none),
  (⟨some 137, .bin .quo (.tmp 136) (.const (.int .i64 2)), some (124, false)⟩, none),
  (⟨some 138, .bin .neq (.tmp 129) (.tmp 137), some (124, false)⟩, none),
  (⟨some 139, .pick (.tmp 124) (.const (.bool true)) (.tmp 138), none⟩, none),
  (⟨some 140, .mv (.tmp 139), none⟩, none),
  (⟨some 141, .mv (.tmp 13), some (140, false)⟩, none),
  (⟨some 142, .mv (.tmp 14), some (140, false)⟩, none),
  (⟨some 143, .indexAddr 3 (.tmp 141) (.tmp 142), some (140, false)⟩, none),
  (⟨some 144, .load true [.int .i64, .int .i64, .slice] (.tmp 143), some (140, false)⟩, none),
  (⟨some 145, .call false (.func 13) [.tmp 144] [(true, [.int .i64, .int .i64, .slice])] true, some (140, false)⟩, none),
  (⟨some 146, .call false (.func 6) [.tmp 145] [(false, [.bool])] true, some (140, false)⟩, none),
  (⟨some 147, .un .not (.tmp 146), some (140, false)⟩, none),
  (⟨some 148, .pick (.tmp 140) (.const (.bool true)) (.tmp 147), none⟩, none)]
def o4_63 : List AOper := [⟨some 6, .mv (.const (.bool false)), none⟩]
def c4_61 : ACode := .cond (.tmp 148) (.seq (.ops o4_63) (.ret)) (.skip)
def o4_66 : List AOper := [⟨some 108, .mv (.tmp 14), none⟩,
  ⟨some 109, .bin .add (.tmp 108) (.const (.int .i64 1)), none⟩,
  ⟨some 14, .mv (.tmp 109), none⟩]
def c4_66 : ACode := .ops o4_66
def b4_50 : ACode := .post (.seq (.seq (.ops o4_53) (.cond (.tmp 107) (.skip) (.exit 0))) (.seq (.block 1 (.seq (.draw [] 0 o4_60 []) (.clear [0, 1, 2, 3, 4, 5, 6, 7, 8, 9, 10, 11, 12, 15, 16, 17, 18, 19, 20, 21, 22, 23, 24, 25, 26, 27, 28, 29, 30, 31, 32, 33, 34, 35, 36, 37, 38, 39, 40, 41, 42, 43, 44, 45, 46, 47, 48, 49, 50, 51, 52, 53, 54, 55, 56, 57, 58, 59, 60, 61, 62, 63, 64, 65, 66, 67, 68, 69, 70, 71, 72, 73, 74, 75, 76, 77, 78, 79, 80, 81, 82, 83, 84, 85, 86, 87, 88, 89, 90, 91, 92, 93, 94, 95, 96, 97, 98, 99, 100, 101, 102, 103, 104, 105, 106, 107, 108, 109, 110, 111, 112, 113, 114, 115, 116, 117, 118, 119, 120, 121, 122, 123, 124, 125, 126, 127, 128, 129, 130, 131, 132, 133, 134, 135, 136, 137, 138, 139, 140, 141, 142, 143, 144, 145, 146, 147, 149, 150, 151, 152, 153, 154, 155, 156, 157, 158, 159, 160, 161, 162, 163, 164, 165, 166, 167] c4_61))) (.clear [0, 1, 2, 3, 4, 5, 6, 7, 8, 9, 10, 11, 12, 15, 16, 17, 18, 19, 20, 21, 22, 23, 24, 25, 26, 27, 28, 29, 30, 31, 32, 33, 34, 35, 36, 37, 38, 39, 40, 41, 42, 43, 44, 45, 46, 47, 48, 49, 50, 51, 52, 53, 54, 55, 56, 57, 58, 59, 60, 61, 62, 63, 64, 65, 66, 67, 68, 69, 70, 71, 72, 73, 74, 75, 76, 77, 78, 79, 80, 81, 82, 83, 84, 85, 86, 87, 88, 89, 90, 91, 92, 93, 94, 95, 96, 97, 98, 99, 100, 101, 102, 103, 104, 105, 106, 107, 108, 109, 110, 111, 112, 113, 114, 115, 116, 117, 118, 119, 120, 121, 122, 123, 124, 125, 126, 127, 128, 129, 130, 131, 132, 133, 134, 135, 136, 137, 138, 139, 140, 141, 142, 143, 144, 145, 146, 147, 148, 149, 150, 151, 152, 153, 154, 155, 156, 157, 158, 159, 160, 161, 162, 163, 164, 165, 166, 167] c4_66))) [0, 1, 2, 3, 4, 5, 6, 7, 8, 9, 10, 11, 12, 15, 16, 17, 18, 19, 20, 21, 22, 23, 24, 25, 26, 27, 28, 29, 30, 31, 32, 33, 34, 35, 36, 37, 38, 39, 40, 41, 42, 43, 44, 45, 46, 47, 48, 49, 50, 51, 52, 53, 54, 55, 56, 57, 58, 59, 60, 61, 62, 63, 64, 65, 66, 67, 68, 69, 70, 71, 72, 73, 74, 75, 76, 77, 78, 79, 80, 81, 82, 83, 84, 85, 86, 87, 88, 89, 90, 91, 92, 93, 94, 95, 96, 97, 98, 99, 100, 101, 102, 103, 104, 105, 106, 107, 108, 109, 110, 111, 112, 113, 114, 115, 116, 117, 118, 119, 120, 121, 122, 123, 124, 125, 126, 127, 128, 129, 130, 131, 132, 133, 134, 135, 136, 137, 138, 139, 140, 141, 142, 143, 144, 145, 146, 147, 148, 149, 150, 151, 152, 153, 154, 155, 156, 157, 158, 159, 160, 161, 162, 163, 164, 165, 166, 167]
def o4_68 : List (AOper × Option Nat) := [(⟨some 149, .mv (.tmp 13), none⟩, none),
  (⟨some 150, .mv (.tmp 13), none⟩, none),
  (⟨some 151, .len (.tmp 150), none⟩, none),
  (⟨some 152, .bin .sub (.tmp 151) (.const (.int .i64 1)), none⟩, none),
  (⟨some 153, .indexAddr 3 (.tmp 149) (.tmp 152), none⟩, none),
  (⟨some 154, .fieldAddr 0 (.tmp 153), none⟩, none),
  (⟨some 155, .load false [.int .i64] (.tmp 154), none⟩, none),
  (⟨some 156, .mv (.tmp 13), none⟩, none),
  (⟨some 157, .mv (.tmp 13), none⟩, none),
  (⟨some 158, .len (.tmp 157), none⟩, none),
  (⟨some 159, .bin .sub (.tmp 158) (.const (.int .i64 1)), none⟩, none),
  (⟨some 160, .indexAddr 3 (.tmp 156) (.tmp 159), none⟩, none),
  (⟨some 161, .fieldAddr 1 (.tmp 160), none⟩, none),
  (⟨some 162, .load false [.int .i64] (.tmp 161), none⟩, none),
  (⟨some 163, .bin .mul (.tmp 155) (.tmp 162), none⟩, none),
  (⟨some 164, .bin .eql (.tmp 163) (.const (.int .i64 1)), none⟩, none),
  (⟨some 165, .mv (.tmp 164), none⟩, none),
  (⟨some 166, .call true (.func 7) [] [(false, [.bool])] true, some (165, true)⟩, none),
  (⟨some 167, .pick (.tmp 165) (.tmp 166) (.const (.bool false)), none⟩, none),
  (⟨some 6, .mv (.tmp 167), none⟩, none)]
def c4_67 : ACode := .seq (.draw [] 0 o4_68 []) (.ret)
def c4_24 : ACode := .seq (.ops o4_25) (.seq (.ops o4_27) (.seq (.seq (.draw [] 0 o4_30 [(21, 19), (21, 20)]) (.clear [0, 1, 2, 4, 5, 6, 7, 8, 9, 10, 11, 12, 13, 14, 15, 16, 17, 18, 19, 20, 21, 22, 23, 24, 25, 26, 27, 28, 29, 30, 31, 32, 33, 34, 35, 36, 37, 38, 39, 40, 41, 42, 43, 44, 45, 46, 47, 48, 49, 50, 51, 52, 53, 54, 55, 56, 57, 58, 59, 60, 61, 62, 63, 64, 65, 66, 67, 68, 69, 70, 71, 72, 73, 74, 75, 76, 77, 79, 80, 81, 82, 83, 84, 85, 86, 87, 88, 89, 90, 91, 92, 93, 94, 95, 96, 97, 98, 99, 100, 101, 102, 103, 104, 105, 106, 107, 108, 109, 110, 111, 112, 113, 114, 115, 116, 117, 118, 119, 120, 121, 122, 123, 124, 125, 126, 127, 128, 129, 130, 131, 132, 133, 134, 135, 136, 137, 138, 139, 140, 141, 142, 143, 144, 145, 146, 147, 148, 149, 150, 151, 152, 153, 154, 155, 156, 157, 158, 159, 160, 161, 162, 163, 164, 165, 166, 167] c4_31)) (.seq (.ops o4_37) (.seq (.seq (.draw [] 0 o4_40 [(18, 17)]) (.cond (.tmp 103) (.seq (.ops o4_43) (.ret)) (.skip))) (.seq (.seq (.ops o4_48) (.block 0 (.clear [0, 1, 2, 3, 4, 5, 6, 7, 8, 9, 10, 11, 12, 15, 16, 17, 18, 19, 20, 21, 22, 23, 24, 25, 26, 27, 28, 29, 30, 31, 32, 33, 34, 35, 36, 37, 38, 39, 40, 41, 42, 43, 44, 45, 46, 47, 48, 49, 50, 51, 52, 53, 54, 55, 56, 57, 58, 59, 60, 61, 62, 63, 64, 65, 66, 67, 68, 69, 70, 71, 72, 73, 74, 75, 76, 77, 78, 79, 80, 81, 82, 83, 84, 85, 86, 87, 88, 89, 90, 91, 92, 93, 94, 95, 96, 97, 98, 99, 100, 101, 102, 103, 104, 105, 106, 107, 108, 109, 110, 111, 112, 113, 114, 115, 116, 117, 118, 119, 120, 121, 122, 123, 124, 125, 126, 127, 128, 129, 130, 131, 132, 133, 134, 135, 136, 137, 138, 139, 140, 141, 142, 143, 144, 145, 146, 147, 148, 149, 150, 151, 152, 153, 154, 155, 156, 157, 158, 159, 160, 161, 162, 163, 164, 165, 166, 167] (.loop b4_50)))) (.clear [0, 1, 2, 3, 4, 5, 6, 7, 8, 9, 10, 11, 12, 14, 15, 16, 17, 18, 19, 20, 21, 22, 23, 24, 25, 26, 27, 28, 29, 30, 31, 32, 33, 34, 35, 36, 37, 38, 39, 40, 41, 42, 43, 44, 45, 46, 47, 48, 49, 50, 51, 52, 53, 54, 55, 56, 57, 58, 59, 60, 61, 62, 63, 64, 65, 66, 67, 68, 69, 70, 71, 72, 73, 74, 75, 76, 77, 78, 79, 80, 81, 82, 83, 84, 85, 86, 87, 88, 89, 90, 91, 92, 93, 94, 95, 96, 97, 98, 99, 100, 101, 102, 103, 104, 105, 106, 107, 108, 109, 110, 111, 112, 113, 114, 115, 116, 117, 118, 119, 120, 121, 122, 123, 124, 125, 126, 127, 128, 129, 130, 131, 132, 133, 134, 135, 136, 137, 138, 139, 140, 141, 142, 143, 144, 145, 146, 147, 148, 149, 150, 151, 152, 153, 154, 155, 156, 157, 158, 159, 160, 161, 162, 163, 164, 165, 166, 167] c4_67))))))
def c4_18 : ACode := .seq (.seq (.ops o4_20) (.cond (.tmp 34) (.ops o4_22) (.skip))) (.clear [0, 1, 2, 4, 5, 6, 9, 10, 11, 12, 13, 14, 15, 16, 17, 18, 19, 20, 21, 22, 23, 24, 25, 26, 27, 28, 29, 30, 31, 32, 33, 34, 35, 36, 37, 38, 39, 40, 41, 42, 43, 44, 45, 46, 47, 48, 49, 50, 51, 52, 53, 54, 55, 56, 57, 58, 59, 60, 61, 62, 63, 64, 65, 66, 67, 68, 69, 70, 71, 72, 73, 74, 75, 76, 77, 78, 79, 80, 81, 82, 83, 84, 85, 86, 87, 88, 89, 90, 91, 92, 93, 94, 95, 96, 97, 98, 99, 100, 101, 102, 103, 104, 105, 106, 107, 108, 109, 110, 111, 112, 113, 114, 115, 116, 117, 118, 119, 120, 121, 122, 123, 124, 125, 126, 127, 128, 129, 130, 131, 132, 133, 134, 135, 136, 137, 138, 139, 140, 141, 142, 143, 144, 145, 146, 147, 148, 149, 150, 151, 152, 153, 154, 155, 156, 157, 158, 159, 160, 161, 162, 163, 164, 165, 166, 167] c4_24)
def c4_0 : ACode := .seq (.ops o4_1) (.seq (.seq (.ops o4_4) (.cond (.tmp 23) (.seq (.ops o4_7) (.ret)) (.skip))) (.seq (.draw [] 0 o4_11 []) (.seq (.seq (.ops o4_14) (.cond (.tmp 31) (.ops o4_16) (.skip))) (.clear [0, 1, 4, 5, 6, 9, 10, 11, 12, 13, 14, 15, 16, 17, 18, 19, 20, 21, 22, 23, 24, 25, 26, 27, 28, 29, 30, 31, 32, 33, 34, 35, 36, 37, 38, 39, 40, 41, 42, 43, 44, 45, 46, 47, 48, 49, 50, 51, 52, 53, 54, 55, 56, 57, 58, 59, 60, 61, 62, 63, 64, 65, 66, 67, 68, 69, 70, 71, 72, 73, 74, 75, 76, 77, 78, 79, 80, 81, 82, 83, 84, 85, 86, 87, 88, 89, 90, 91, 92, 93, 94, 95, 96, 97, 98, 99, 100, 101, 102, 103, 104, 105, 106, 107, 108, 109, 110, 111, 112, 113, 114, 115, 116, 117, 118, 119, 120, 121, 122, 123, 124, 125, 126, 127, 128, 129, 130, 131, 132, 133, 134, 135, 136, 137, 138, 139, 140, 141, 142, 143, 144, 145, 146, 147, 148, 149, 150, 151, 152, 153, 154, 155, 156, 157, 158, 159, 160, 161, 162, 163, 164, 165, 166, 167] c4_18))))
def a4 : AFun := ⟨168, [.tmp 6], c4_0⟩
theorem ok4 : OkFun Try.prog 4 a4 := ⟨Try.f4, Try.f4.body.getD .skip, Try.func4, by kernel_rfl, by kernel_rfl, by kernel_rfl, by kernel_rfl, by kernel_rfl⟩
/-! #### skylightlaw51.MipTells -/
def o5_1 : List AOper := [⟨some 5, .box (.tmp 0), none⟩,
  ⟨some 10, .mv (.const (.bool false)), none⟩]
def o5_4 : List AOper := [⟨some 22, .fieldAddr 2 (.tmp 5), none⟩,
  ⟨some 23, .load false [.slice] (.tmp 22), none⟩,
  ⟨some 24, .len (.tmp 23), none⟩,
  ⟨some 25, .bin .gtr (.tmp 24) (.const (.int .i64 40)), none⟩]
def o5_7 : List AOper := [⟨some 26, .call true (.func 7) [] [(false, [.bool])] true, none⟩,
  ⟨some 10, .mv (.tmp 26), none⟩]
def o5_11 : List (AOper × Option Nat) := [(⟨some 27, .load true [.int .i64, .int .i64, .slice] (.tmp 5), none⟩, none),
  (⟨some 28, .call false (.func 9) [.tmp 27] [(true, [.int .i64, .int .i64, .slice])] true, none⟩, none),
  (⟨some 29, .call false (.func 14) [.tmp 28] [(false, [.slice])] true, none⟩, none),
  (⟨some 30, .load true [.int .i64, .int .i64, .slice] (.tmp 5), none⟩, none),
  (⟨some 31, .call false (.func 16) [.tmp 30] [(false, [.slice])] true, none⟩, none),
  (⟨some 11, .mv (.tmp 29), none⟩, none),
  (⟨some 12, .mv (.tmp 31), none⟩, none)]
def o5_14 : List AOper := [⟨some 32, .mv (.tmp 11), none⟩,
  ⟨some 33, .len (.tmp 32), none⟩,
  ⟨some 34, .mv (.tmp 12), none⟩,
  ⟨some 35, .len (.tmp 34), none⟩,
  ⟨some 36, .bin .neq (.tmp 33) (.tmp 35), none⟩]
def o5_17 : List AOper := [⟨some 10, .mv (.const (.bool false)), none⟩]
def o5_22 : List AOper := [⟨some 13, .mv (.const (.int .i64 0)), none⟩]
def o5_27 : List AOper := [⟨some 37, .mv (.tmp 13), none⟩,
  ⟨some 38, .mv (.tmp 11), none⟩,
  ⟨some 39, .len (.tmp 38), none⟩,
  ⟨some 40, .bin .lss (.tmp 37) (.tmp 39), none⟩]
def o5_34 : List (AOper × Option Nat) := [(⟨some 43, .mv (.tmp 11), none⟩, none),
  (⟨some 44, .mv (.tmp 13), none⟩, none),
  (⟨some 45, .indexAddr 3 (.tmp 43) (.tmp 44), none⟩, none),
  (⟨some 46, .load true [.int .i64, .int .i64, .slice] (.tmp 45), none⟩, none),
  (⟨some 47, .call false (.func 13) [.tmp 46] [(true, [.int .i64, .int .i64, .slice])] true, none⟩, none),
  (⟨some 48, .mv (.tmp 12), none⟩, none),
  (⟨some 49, .mv (.tmp 13), none⟩, none),
  (⟨some 50, .indexAddr 3 (.tmp 48) (.tmp 49), none⟩, none),
  (⟨some 51, .load true [.int .i64, .int .i64, .slice] (.tmp 50), none⟩, none),
  (⟨some 52, .call false (.func 12) [.tmp 47, .tmp 51] [(false, [.bool])] true, none⟩, none),
  (⟨some 53, .un .not (.tmp 52), none⟩, none)]
def o5_37 : List AOper := [⟨some 10, .mv (.const (.bool false)), none⟩]
def o5_40 : List AOper := [⟨some 41, .mv (.tmp 13), none⟩,
  ⟨some 42, .bin .add (.tmp 41) (.const (.int .i64 1)), none⟩,
  ⟨some 13, .mv (.tmp 42), none⟩]
def c5_40 : ACode := .ops o5_40
def b5_24 : ACode := .post (.seq (.seq (.ops o5_27) (.cond (.tmp 40) (.skip) (.exit 0))) (.seq (.block 1 (.seq (.draw [] 0 o5_34 [(8, 4)]) (.cond (.tmp 53) (.seq (.ops o5_37) (.ret)) (.skip)))) (.clear [0, 6, 7, 8, 9, 10, 14, 15, 16, 17, 18, 19, 20, 21, 22, 23, 24, 25, 26, 27, 28, 29, 30, 31, 32, 33, 34, 35, 36, 37, 38, 39, 40, 41, 42, 43, 44, 45, 46, 47, 48, 49, 50, 51, 52, 53, 54, 55, 56, 57, 58, 59, 60, 61, 62, 63, 64, 65, 66, 67, 68, 69, 70, 71, 72, 73, 74, 75, 76, 77, 78, 79, 80, 81, 82, 83, 84, 85, 86, 87, 88, 89, 90, 91, 92, 93, 94, 95, 96, 97, 98, 99, 100, 101, 102, 103, 104, 105, 106, 107, 108, 109, 110, 111, 112, 113, 114, 115, 116, 117, 118, 119, 120, 121, 122, 123, 124, 125, 126, 127, 128] c5_40))) [0, 6, 7, 8, 9, 10, 14, 15, 16, 17, 18, 19, 20, 21, 22, 23, 24, 25, 26, 27, 28, 29, 30, 31, 32, 33, 34, 35, 36, 37, 38, 39, 40, 41, 42, 43, 44, 45, 46, 47, 48, 49, 50, 51, 52, 53, 54, 55, 56, 57, 58, 59, 60, 61, 62, 63, 64, 65, 66, 67, 68, 69, 70, 71, 72, 73, 74, 75, 76, 77, 78, 79, 80, 81, 82, 83, 84, 85, 86, 87, 88, 89, 90, 91, 92, 93, 94, 95, 96, 97, 98, 99, 100, 101, 102, 103, 104, 105, 106, 107, 108, 109, 110, 111, 112, 113, 114, 115, 116, 117, 118, 119, 120, 121, 122, 123, 124, 125, 126, 127, 128]
def o5_42 : List AOper := [⟨some 55, .load true [.int .i64, .int .i64, .slice] (.tmp 5), none⟩,
  ⟨some 56, .call false (.func 9) [.tmp 55] [(true, [.int .i64, .int .i64, .slice])] true, none⟩,
  ⟨some 57, .mv (.tmp 3), none⟩,
  ⟨some 58, .mv (.tmp 4), none⟩,
  ⟨some 59, .call false (.func 11) [.tmp 56, .tmp 57, .tmp 58] [(true, [.int .i64, .int .i64, .slice]), (false, [.bool])] false, none⟩,
  ⟨some 54, .mv (.tmp 59), none⟩,
  ⟨some 60, .extract (.tmp 54) 0, none⟩,
  ⟨some 61, .extract (.tmp 54) 1, none⟩,
  ⟨some 14, .alloc [.int .i64 0, .int .i64 0, .slice none 0 0], none⟩,
  ⟨none, .store 3 (.tmp 14) (.tmp 60), none⟩,
  ⟨some 15, .mv (.tmp 61), none⟩]
def o5_44 : List AOper := [⟨some 63, .load true [.int .i64, .int .i64, .slice] (.tmp 5), none⟩,
  ⟨some 64, .mv (.tmp 3), none⟩,
  ⟨some 65, .mv (.tmp 4), none⟩,
  ⟨some 66, .call false (.func 17) [.tmp 63, .tmp 64, .tmp 65] [(true, [.int .i64, .int .i64, .slice]), (false, [.bool])] false, none⟩,
  ⟨some 62, .mv (.tmp 66), none⟩,
  ⟨some 67, .extract (.tmp 62) 0, none⟩,
  ⟨some 68, .extract (.tmp 62) 1, none⟩,
  ⟨some 16, .alloc [.int .i64 0, .int .i64 0, .slice none 0 0], none⟩,
  ⟨none, .store 3 (.tmp 16) (.tmp 67), none⟩,
  ⟨some 17, .mv (.tmp 68), none⟩]
def o5_46 : List AOper := [⟨some 70, .load true [.int .i64, .int .i64, .slice] (.tmp 5), none⟩,
  ⟨some 71, .call false (.func 9) [.tmp 70] [(true, [.int .i64, .int .i64, .slice])] true, none⟩,
  ⟨some 72, .mv (.tmp 1), none⟩,
  ⟨some 73, .mv (.tmp 2), none⟩,
  ⟨some 74, .mv (.tmp 3), none⟩,
  ⟨some 75, .mv (.tmp 4), none⟩,
  ⟨some 76, .call false (.func 10) [.tmp 71, .tmp 72, .tmp 73, .tmp 74, .tmp 75] [(true, [.int .i64, .int .i64, .slice]), (false, [.bool])] false, none⟩,
  ⟨some 69, .mv (.tmp 76), none⟩,
  ⟨some 77, .extract (.tmp 69) 0, none⟩,
  ⟨some 78, .extract (.tmp 69) 1, none⟩,
  ⟨some 18, .alloc [.int .i64 0, .int .i64 0, .slice none 0 0], none⟩,
  ⟨none, .store 3 (.tmp 18) (.tmp 77), none⟩,
  ⟨some 19, .mv (.tmp 78), none⟩]
def o5_48 : List AOper := [⟨some 80, .load true [.int .i64, .int .i64, .slice] (.tmp 5), none⟩,
  ⟨some 81, .mv (.tmp 1), none⟩,
  ⟨some 82, .mv (.tmp 2), none⟩,
  ⟨some 83, .mv (.tmp 3), none⟩,
  ⟨some 84, .mv (.tmp 4), none⟩,
  ⟨some 85, .call false (.func 18) [.tmp 80, .tmp 81, .tmp 82, .tmp 83, .tmp 84] [(true, [.int .i64, .int .i64, .slice]), (false, [.bool])] false, none⟩,
  ⟨some 79, .mv (.tmp 85), none⟩,
  ⟨some 86, .extract (.tmp 79) 0, none⟩,
  ⟨some 87, .extract (.tmp 79) 1, none⟩,
  ⟨some 20, .alloc [.int .i64 0, .int .i64 0, .slice none 0 0], none⟩,
  ⟨none, .store 3 (.tmp 20) (.tmp 86), none⟩,
  ⟨some 21, .mv (.tmp 87), none⟩]
def o5_50 : List (AOper × Option Nat) := [(⟨some 88, .load true [.int .i64, .int .i64, .slice] (.tmp 5), none⟩, none),
  (⟨some 89, .call false (.func 9) [.tmp 88] [(true, [.int .i64, .int .i64, .slice])] true, none⟩, none),
  (⟨some 90, .call false (.func 8) [.tmp 89] [(true, [.int .i64, .int .i64, .slice])] true, none⟩, none),
  (⟨some 91, .call false (.func 13) [.tmp 90] [(true, [.int .i64, .int .i64, .slice])] true, none⟩, none),
  (⟨some 92, .load true [.int .i64, .int .i64, .slice] (.tmp 5), none⟩, none),
  (⟨some 93, .call false (.func 19) [.tmp 92] [(true, [.int .i64, .int .i64, .slice])] true, none⟩, none),
  (⟨some 94, .call false (.func 12) [.tmp 91, .tmp 93] [(false, [.bool])] true, none⟩, none),
  (⟨some 95, .mv (.tmp 94), none⟩, none),
  (⟨some 96, .load true [.int .i64, .int .i64, .slice] (.tmp 14), some (95, true)⟩, none),
  (⟨some 97, .call false (.func 13) [.tmp 96] [(true, [.int .i64, .int .i64, .slice])] true, some (95, true)⟩, none),
  (⟨some 98, .load true [.int .i64, .int .i64, .slice] (.tmp 16), some (95, true)⟩, none),
  (⟨some 99, .call false (.func 12) [.tmp 97, .tmp 98] [(false, [.bool])] true, some (95, true)⟩, none),
  (⟨some 100, .pick (.tmp 95) (.tmp 99) (.const (.bool false)), none⟩, none),
  (⟨some 101, .mv (.tmp 100), none⟩, none),
  (⟨some 102, .mv (.tmp 15), some (101, true)⟩, none),
  (⟨some 103, .mv (.tmp 17), some (101, true)⟩, none),
  (⟨some 104, .binB false (.tmp 102) (.tmp 103), some (101, true)⟩, none),
  (⟨some 105, .pick (.tmp 101) (.tmp 104) (.const (.bool false)), none⟩, none),
  (⟨some 106, .mv (.tmp 105), none⟩, none),
  (⟨some 107, .load true [.int .i64, .int .i64, .slice] (.tmp 18), some (106, true)⟩, none),
  (⟨some 108, .call false (.func 13) [.tmp 107] [(true, [.int .i64, .int .i64, .slice])] true, some (106, true)⟩, none),
  (⟨some 109, .load true [.int .i64, .int .i64, .slice] (.tmp 20), some (106, true)⟩, none),
  (⟨some 110, .call false (.func 12) [.tmp 108, .tmp 109] [(false, [.bool])] true, some (106, true)⟩, none),
  (⟨some 111, .pick (.tmp 106) (.tmp 110) (.const (.bool false)), none⟩, none),
  (⟨some 112, .mv (.tmp 111), none⟩, none),
  (⟨some 113, .mv (.tmp 19), some (112, true)⟩, none),
  (⟨some 114, .mv (.tmp 21), some (112, true)⟩, none),
  (⟨some 115, .binB false (.tmp 113) (.tmp 114), some (112, true)⟩, none),
  (⟨some 116, .pick (.tmp 112) (.tmp 115) (.const (.bool false)), none⟩, none),
  (⟨some 117, .mv (.tmp 116), none⟩, none),
  (⟨some 118, .mv (.tmp 3), some (117, true)⟩, none),
  (⟨some 119, .mv (.tmp 4), some (117, true)⟩, none),
  (⟨some 120, .call true (.func 15) [.tmp 118, .tmp 119] [(false, [.int .i64])] true, some (117, true)⟩, none),
  (⟨some 121, .mv (.tmp 3), some (117, true)⟩, none),
  (⟨some 122, .mv (.tmp 4), some (117, true)⟩, none),
  (⟨some 123, .call true (.func 20) [.tmp 121, .tmp 122] [(false, [.int .i64])] true, some (117, true)⟩, none),
  (⟨some 124, .bin .eql (.tmp 120) (.tmp 123), some (117, true)⟩, none),
  (⟨some 125, .pick (.tmp 117) (.tmp 124) (.const (.bool false)), none⟩, none),
  (⟨some 126, .mv (.tmp 125), none⟩, none),
  (⟨some 127, .call true (.func 7) [] [(false, [.bool])] true, some (126, true)⟩, none),
  (⟨some 128, .pick (.tmp 126) (.tmp 127) (.const (.bool false)), none⟩, none),
  (⟨some 10, .mv (.tmp 128), none⟩, none)]
def c5_41 : ACode := .seq (.ops o5_42) (.seq (.ops o5_44) (.seq (.ops o5_46) (.seq (.ops o5_48) (.seq (.draw [] 0 o5_50 [(4, 1), (4, 2), (4, 3), (10, 9), (21, 20)]) (.ret)))))
def c5_0 : ACode := .seq (.ops o5_1) (.seq (.seq (.ops o5_4) (.cond (.tmp 25) (.seq (.ops o5_7) (.ret)) (.skip))) (.seq (.draw [] 0 o5_11 [(3, 1), (3, 2)]) (.seq (.seq (.ops o5_14) (.cond (.tmp 36) (.seq (.ops o5_17) (.ret)) (.skip))) (.seq (.seq (.ops o5_22) (.block 0 (.clear [0, 6, 7, 8, 9, 10, 14, 15, 16, 17, 18, 19, 20, 21, 22, 23, 24, 25, 26, 27, 28, 29, 30, 31, 32, 33, 34, 35, 36, 37, 38, 39, 40, 41, 42, 43, 44, 45, 46, 47, 48, 49, 50, 51, 52, 53, 54, 55, 56, 57, 58, 59, 60, 61, 62, 63, 64, 65, 66, 67, 68, 69, 70, 71, 72, 73, 74, 75, 76, 77, 78, 79, 80, 81, 82, 83, 84, 85, 86, 87, 88, 89, 90, 91, 92, 93, 94, 95, 96, 97, 98, 99, 100, 101, 102, 103, 104, 105, 106, 107, 108, 109, 110, 111, 112, 113, 114, 115, 116, 117, 118, 119, 120, 121, 122, 123, 124, 125, 126, 127, 128] (.loop b5_24)))) (.clear [0, 6, 7, 8, 9, 10, 11, 12, 13, 14, 15, 16, 17, 18, 19, 20, 21, 22, 23, 24, 25, 26, 27, 28, 29, 30, 31, 32, 33, 34, 35, 36, 37, 38, 39, 40, 41, 42, 43, 44, 45, 46, 47, 48, 49, 50, 51, 52, 53, 54, 55, 56, 57, 58, 59, 60, 61, 62, 63, 64, 65, 66, 67, 68, 69, 70, 71, 72, 73, 74, 75, 76, 77, 78, 79, 80, 81, 82, 83, 84, 85, 86, 87, 88, 89, 90, 91, 92, 93, 94, 95, 96, 97, 98, 99, 100, 101, 102, 103, 104, 105, 106, 107, 108, 109, 110, 111, 112, 113, 114, 115, 116, 117, 118, 119, 120, 121, 122, 123, 124, 125, 126, 127, 128] c5_41)))))
def a5 : AFun := ⟨129, [.tmp 10], c5_0⟩
theorem ok5 : OkFun Try.prog 5 a5 := ⟨Try.f5, Try.f5.body.getD .skip, Try.func5, by kernel_rfl, by kernel_rfl, by kernel_rfl, by kernel_rfl, by kernel_rfl⟩
/-! #### skylightref41.Right -/
def o6_1 : List AOper := [⟨some 1, .box (.tmp 0), none⟩,
  ⟨some 2, .mv (.const (.bool false)), none⟩]
def o6_4 : List AOper := [⟨some 3, .mv (.const (.int .i64 0)), none⟩]
def o6_9 : List AOper := [⟨some 4, .mv (.tmp 3), none⟩,
  ⟨some 5, .fieldAddr 2 (.tmp 1), none⟩,
  ⟨some 6, .load false [.slice] (.tmp 5), none⟩,
  ⟨some 7, .len (.tmp 6), none⟩,
  ⟨some 8, .bin .lss (.tmp 4) (.tmp 7), none⟩]
def o6_16 : List (AOper × Option Nat) := [(⟨some 11, .fieldAddr 2 (.tmp 1), none⟩, none),
  (⟨some 12, .load false [.slice] (.tmp 11), none⟩, none),
  (⟨some 13, .mv (.tmp 3), none⟩, none),
  (⟨some 14, .indexAddr 3 (.tmp 12) (.tmp 13), none⟩, none),
  (⟨some 15, .indexArr 3 1 (.tmp 14) (.const (.int .i64 0)), none⟩, none),
  (⟨some 16, .load false [.int .i64] (.tmp 15), none⟩, none),
  (⟨some 17, .fieldAddr 2 (.tmp 1), none⟩, none),
  (⟨some 18, .load false [.slice] (.tmp 17), none⟩, none),
  (⟨some 19, .mv (.tmp 3), none⟩, none),
  (⟨some 20, .indexAddr 3 (.tmp 18) (.tmp 19), none⟩, none),
  (⟨some 21, .indexArr 3 1 (.tmp 20) (.const (.int .i64 1)), none⟩, none),
  (⟨some 22, .load false [.int .i64] (.tmp 21), none⟩, none),
  (⟨some 23, .fieldAddr 2 (.tmp 1), none⟩, none),
  (⟨some 24, .load false [.slice] (.tmp 23), none⟩, none),
  (⟨some 25, .mv (.tmp 3), none⟩, none),
  (⟨some 26, .indexAddr 3 (.tmp 24) (.tmp 25), none⟩, none),
  (⟨some 27, .indexArr 3 1 (.tmp 26) (.const (.int .i64 2)), none⟩, none),
  (⟨some 28, .load false [.int .i64] (.tmp 27), none⟩, none),
  (⟨some 29, .minmax false [.tmp 16, .tmp 22, .tmp 28], none⟩, none),
  (⟨some 30, .bin .lss (.tmp 29) (.const (.int .i64 0)), none⟩, none),
  (⟨some 31, .mv (.tmp 30), none⟩, none),
  (⟨some 32, .fieldAddr 2 (.tmp 1), some (31, false)⟩, none),
  (⟨some 33, .load false [.slice] (.tmp 32), some (31, false)⟩, none),
  (⟨some 34, .mv (.tmp 3), some (31, false)⟩, none),
  (⟨some 35, .indexAddr 3 (.tmp 33) (.tmp 34), some (31, false)⟩, none),
  (⟨some 36, .indexArr 3 1 (.tmp 35) (.const (.int .i64 0)), some (31, false)⟩, none),
  (⟨some 37, .load false [.int .i64] (.tmp 36), some (31, false)⟩, none),
  (⟨some 38, .fieldAddr 2 (.tmp 1), some (31, false)⟩, none),
  (⟨some 39, .load false [.slice] (.tmp 38), some (31, false)⟩, none),
  (⟨some 40, .mv (.tmp 3), some (31, false)⟩, none),
  (⟨some 41, .indexAddr 3 (.tmp 39) (.tmp 40), some (31, false)⟩, none),
  (⟨some 42, .indexArr 3 1 (.tmp 41) (.const (.int .i64 1)), some (31, false)⟩, none),
  (⟨some 43, .load false [.int .i64] (.tmp 42), some (31, false)⟩, none),
  (⟨some 44, .fieldAddr 2 (.tmp 1), some (31, false)⟩, none),
  (⟨some 45, .load false [.slice] (.tmp 44), some (31, false)⟩, none),
  (⟨some 46, .mv (.tmp 3), some (31, false)⟩, none),
  (⟨some 47, .indexAddr 3 (.tmp 45) (.tmp 46), some (31, false)⟩, none),
  (⟨some 48, .indexArr 3 1 (.tmp 47) (.const (.int .i64 2)), some (31, false)⟩, none),
  (⟨some 49, .load false [.int .i64] (.tmp 48), some (31, false)⟩, none),
  (⟨some 50, .minmax true [.tmp 37, .tmp 43, .tmp 49], some (31, false)⟩, none),
  (⟨some 51, .bin .gtr (.tmp 50) (.const (.int .i64 255)), some (31, false)⟩, none),
  (⟨some 52, .pick (.tmp 31) (.const (.bool true)) (.tmp 51), none⟩, none)]
def o6_19 : List AOper := [⟨some 2, .mv (.const (.bool false)), none⟩]
def o6_22 : List AOper := [⟨some 9, .mv (.tmp 3), none⟩,
  ⟨some 10, .bin .add (.tmp 9) (.const (.int .i64 1)), none⟩,
  ⟨some 3, .mv (.tmp 10), none⟩]
def c6_22 : ACode := .ops o6_22
def b6_6 : ACode := .post (.seq (.seq (.ops o6_9) (.cond (.tmp 8) (.skip) (.exit 0))) (.seq (.block 1 (.seq (.draw [] 0 o6_16 []) (.cond (.tmp 52) (.seq (.ops o6_19) (.ret)) (.skip)))) (.clear [0, 2, 4, 5, 6, 7, 8, 9, 10, 11, 12, 13, 14, 15, 16, 17, 18, 19, 20, 21, 22, 23, 24, 25, 26, 27, 28, 29, 30, 31, 32, 33, 34, 35, 36, 37, 38, 39, 40, 41, 42, 43, 44, 45, 46, 47, 48, 49, 50, 51, 52, 53, 54, 55, 56, 57, 58, 59, 60] c6_22))) [0, 2, 4, 5, 6, 7, 8, 9, 10, 11, 12, 13, 14, 15, 16, 17, 18, 19, 20, 21, 22, 23, 24, 25, 26, 27, 28, 29, 30, 31, 32, 33, 34, 35, 36, 37, 38, 39, 40, 41, 42, 43, 44, 45, 46, 47, 48, 49, 50, 51, 52, 53, 54, 55, 56, 57, 58, 59, 60]
def o6_24 : List AOper := [⟨some 53, .fieldAddr 0 (.tmp 1), none⟩,
  ⟨some 54, .load false [.int .i64] (.tmp 53), none⟩,
  ⟨some 55, .fieldAddr 1 (.tmp 1), none⟩,
  ⟨some 56, .load false [.int .i64] (.tmp 55), none⟩,
  ⟨some 57, .fieldAddr 2 (.tmp 1), none⟩,
  ⟨some 58, .load false [.slice] (.tmp 57), none⟩,
  ⟨some 59, .len (.tmp 58), none⟩,
  ⟨some 60, .call true (.func 21) [.tmp 54, .tmp 56, .tmp 59] [(false, [.bool])] true, none⟩,
  ⟨some 2, .mv (.tmp 60), none⟩]
def c6_23 : ACode := .seq (.ops o6_24) (.ret)
def c6_0 : ACode := .seq (.ops o6_1) (.seq (.seq (.ops o6_4) (.block 0 (.clear [0, 2, 4, 5, 6, 7, 8, 9, 10, 11, 12, 13, 14, 15, 16, 17, 18, 19, 20, 21, 22, 23, 24, 25, 26, 27, 28, 29, 30, 31, 32, 33, 34, 35, 36, 37, 38, 39, 40, 41, 42, 43, 44, 45, 46, 47, 48, 49, 50, 51, 52, 53, 54, 55, 56, 57, 58, 59, 60] (.loop b6_6)))) (.clear [0, 2, 3, 4, 5, 6, 7, 8, 9, 10, 11, 12, 13, 14, 15, 16, 17, 18, 19, 20, 21, 22, 23, 24, 25, 26, 27, 28, 29, 30, 31, 32, 33, 34, 35, 36, 37, 38, 39, 40, 41, 42, 43, 44, 45, 46, 47, 48, 49, 50, 51, 52, 53, 54, 55, 56, 57, 58, 59, 60] c6_23))
def a6 : AFun := ⟨61, [.tmp 2], c6_0⟩
theorem ok6 : OkFun Try.prog 6 a6 := ⟨Try.f6, Try.f6.body.getD .skip, Try.func6, by kernel_rfl, by kernel_rfl, by kernel_rfl, by kernel_rfl, by kernel_rfl⟩
/-! #### skylightlaw51.awake -/
def o7_1 : List AOper := [⟨some 0, .mv (.const (.bool false)), none⟩]
def o7_3 : List AOper := [⟨some 3, .build [.int .i64 0, .int .i64 0, .int .i64 0] [(0, 1, .const (.int .i64 10)), (1, 1, .const (.int .i64 0)), (2, 1, .const (.int .i64 0))], none⟩,
  ⟨some 4, .build [.int .i64 0, .int .i64 0, .int .i64 0] [(0, 1, .const (.int .i64 20)), (1, 1, .const (.int .i64 0)), (2, 1, .const (.int .i64 0))], none⟩,
  ⟨some 5, .buildSlice 3 2 [.int .i64 0, .int .i64 0, .int .i64 0, .int .i64 0, .int .i64 0, .int .i64 0] [(0, 3, .tmp 3), (3, 3, .tmp 4)], none⟩,
  ⟨some 6, .build [.int .i64 0, .int .i64 0, .slice none 0 0] [(0, 1, .const (.int .i64 2)), (1, 1, .const (.int .i64 1)), (2, 1, .tmp 5)], none⟩,
  ⟨some 1, .alloc [.int .i64 0, .int .i64 0, .slice none 0 0], none⟩,
  ⟨none, .store 3 (.tmp 1) (.tmp 6), none⟩]
def o7_5 : List AOper := [⟨some 7, .load true [.int .i64, .int .i64, .slice] (.tmp 1), none⟩,
  ⟨some 8, .call false (.func 8) [.tmp 7] [(true, [.int .i64, .int .i64, .slice])] true, none⟩,
  ⟨some 2, .alloc [.int .i64 0, .int .i64 0, .slice none 0 0], none⟩,
  ⟨none, .store 3 (.tmp 2) (.tmp 8), none⟩]
def o7_7 : List AOper := [⟨some 9, .fieldAddr 2 (.tmp 2), none⟩,
  ⟨some 10, .load false [.slice] (.tmp 9), none⟩,
  ⟨some 11, .len (.tmp 10), none⟩,
  ⟨some 12, .bin .eql (.tmp 11) (.const (.int .i64 1)), none⟩,
  ⟨some 13, .mv (.tmp 12), none⟩,
  ⟨some 14, .fieldAddr 2 (.tmp 2), some (13, true)⟩,
  ⟨some 15, .load false [.slice] (.tmp 14), some (13, true)⟩,
  ⟨some 16, .indexAddr 3 (.tmp 15) (.const (.int .i64 0)), some (13, true)⟩,
  ⟨some 17, .load true [.int .i64, .int .i64, .int .i64] (.tmp 16), some (13, true)⟩,
  ⟨some 18, .build [.int .i64 0, .int .i64 0, .int .i64 0] [(0, 1, .const (.int .i64 15)), (1, 1, .const (.int .i64 0)), (2, 1, .const (.int .i64 0))], some (13, true)⟩,
  ⟨some 19, .eqAgg [.int .i64, .int .i64, .int .i64] false (.tmp 17) (.tmp 18), some (13, true)⟩,
  ⟨some 20, .pick (.tmp 13) (.tmp 19) (.const (.bool false)), none⟩,
  ⟨some 21, .mv (.tmp 20), none⟩,
  ⟨some 22, .call true (.func 15) [.const (.int .i64 5), .const (.int .i64 3)] [(false, [.int .i64])] true, some (21, true)⟩,
  ⟨some 23, .bin .eql (.tmp 22) (.const (.int .i64 4)), some (21, true)⟩,
  ⟨some 24, .pick (.tmp 21) (.tmp 23) (.const (.bool false)), none⟩,
  ⟨some 25, .mv (.tmp 24), none⟩,
  ⟨some 26, .load true [.int .i64, .int .i64, .slice] (.tmp 1), some (25, true)⟩,
  ⟨some 27, .call false (.func 14) [.tmp 26] [(false, [.slice])] true, some (25, true)⟩,
  ⟨some 28, .len (.tmp 27), some (25, true)⟩,
  ⟨some 29, .bin .eql (.tmp 28) (.const (.int .i64 2)), some (25, true)⟩,
  ⟨some 30, .pick (.tmp 25) (.tmp 29) (.const (.bool false)), none⟩,
  ⟨some 31, .mv (.tmp 30), none⟩,
  ⟨some 32, .call true (.func 15) [.const (.int .i64 0), .const (.int .i64 1)] [(false, [.int .i64])] true, some (31, true)⟩,
  ⟨some 33, .bin .eql (.tmp 32) (.const (.int .i64 0)), some (31, true)⟩,
  ⟨some 34, .pick (.tmp 31) (.tmp 33) (.const (.bool false)), none⟩,
  ⟨some 35, .mv (.tmp 34), none⟩,
  ⟨some 36, .build [.int .i64 0, .int .i64 0, .slice none 0 0] [], some (35, true)⟩,
  ⟨some 37, .call false (.func 8) [.tmp 36] [(true, [.int .i64, .int .i64, .slice])] true, some (35, true)⟩,
  ⟨some 38, .field false 2 1 (.tmp 37), some (35, true)⟩,
  ⟨some 39, .len (.tmp 38), some (35, true)⟩,
  ⟨some 40, .bin .eql (.tmp 39) (.const (.int .i64 0)), some (35, true)⟩,
  ⟨some 41, .pick (.tmp 35) (.tmp 40) (.const (.bool false)), none⟩,
  ⟨some 0, .mv (.tmp 41), none⟩]
def c7_0 : ACode := .seq (.ops o7_1) (.seq (.ops o7_3) (.seq (.ops o7_5) (.seq (.ops o7_7) (.ret))))
def a7 : AFun := ⟨42, [.tmp 0], c7_0⟩
theorem ok7 : OkFun Try.prog 7 a7 := ⟨Try.f7, Try.f7.body.getD .skip, Try.func7, by kernel_rfl, by kernel_rfl, by kernel_rfl, by kernel_rfl, by kernel_rfl⟩
/-! #### mip.Half -/
def o8_1 : List AOper := [⟨some 1, .box (.tmp 0), none⟩,
  ⟨some 2, .alloc [.int .i64 0, .int .i64 0, .slice none 0 0], none⟩]
def o8_4 : List AOper := [⟨some 3, .load true [.int .i64, .int .i64, .slice] (.tmp 1), none⟩,
  ⟨some 4, .call false (.func 22) [.tmp 3] [(false, [.bool])] true, none⟩,
  ⟨some 5, .un .not (.tmp 4), none⟩]
def o8_7 : List AOper := [⟨some 6, .build [.int .i64 0, .int .i64 0, .slice none 0 0] [], none⟩,
  ⟨none, .store 3 (.tmp 2) (.tmp 6), none⟩]
def o8_11 : List AOper := [⟨some 7, .load true [.int .i64, .int .i64, .slice] (.tmp 1), none⟩,
  ⟨some 8, .call false (.func 23) [.tmp 7] [(true, [.int .i64, .int .i64, .slice])] true, none⟩,
  ⟨none, .store 3 (.tmp 2) (.tmp 8), none⟩]
def c8_0 : ACode := .seq (.ops o8_1) (.seq (.seq (.ops o8_4) (.cond (.tmp 5) (.seq (.ops o8_7) (.ret)) (.skip))) (.seq (.ops o8_11) (.ret)))
def a8 : AFun := ⟨9, [.cell true [.int .i64, .int .i64, .slice] 2], c8_0⟩
theorem ok8 : OkFun Try.prog 8 a8 := ⟨Try.f8, Try.f8.body.getD .skip, Try.func8, by kernel_rfl, by kernel_rfl, by kernel_rfl, by kernel_rfl, by kernel_rfl⟩
/-! #### skylightlaw51.of -/
def o9_1 : List AOper := [⟨some 1, .box (.tmp 0), none⟩,
  ⟨some 2, .alloc [.int .i64 0, .int .i64 0, .slice none 0 0], none⟩]
def o9_3 : List AOper := [⟨some 3, .fieldAddr 0 (.tmp 1), none⟩,
  ⟨some 4, .load false [.int .i64] (.tmp 3), none⟩,
  ⟨some 5, .fieldAddr 1 (.tmp 1), none⟩,
  ⟨some 6, .load false [.int .i64] (.tmp 5), none⟩,
  ⟨some 7, .fieldAddr 2 (.tmp 1), none⟩,
  ⟨some 8, .load false [.slice] (.tmp 7), none⟩,
  ⟨some 9, .build [.int .i64 0, .int .i64 0, .slice none 0 0] [(0, 1, .tmp 4), (1, 1, .tmp 6), (2, 1, .tmp 8)], none⟩,
  ⟨none, .store 3 (.tmp 2) (.tmp 9), none⟩]
def c9_0 : ACode := .seq (.ops o9_1) (.seq (.ops o9_3) (.ret))
def a9 : AFun := ⟨10, [.cell true [.int .i64, .int .i64, .slice] 2], c9_0⟩
theorem ok9 : OkFun Try.prog 9 a9 := ⟨Try.f9, Try.f9.body.getD .skip, Try.func9, by kernel_rfl, by kernel_rfl, by kernel_rfl, by kernel_rfl, by kernel_rfl⟩
/-! #### mip.Cut -/
def o10_1 : List AOper := [⟨some 5, .box (.tmp 0), none⟩,
  ⟨some 10, .alloc [.int .i64 0, .int .i64 0, .slice none 0 0], none⟩,
  ⟨some 11, .mv (.const (.bool false)), none⟩]
def o10_4 : List AOper := [⟨some 15, .load true [.int .i64, .int .i64, .slice] (.tmp 5), none⟩,
  ⟨some 16, .call false (.func 22) [.tmp 15] [(false, [.bool])] true, none⟩,
  ⟨some 17, .un .not (.tmp 16), none⟩,
  ⟨some 18, .mv (.tmp 17), none⟩,
  ⟨some 19, .mv (.tmp 1), some (18, false)⟩,
  ⟨some 20, .mv (.tmp 2), some (18, false)⟩,
  ⟨some 21, .minmax false [.tmp 19, .tmp 20], some (18, false)⟩,
  ⟨some 22, .bin .lss (.tmp 21) (.const (.int .i64 0)), some (18, false)⟩,
  ⟨some 23, .pick (.tmp 18) (.const (.bool true)) (.tmp 22), none⟩,
  ⟨some 24, .mv (.tmp 23), none⟩,
  ⟨some 25, .mv (.tmp 3), some (24, false)⟩,
  ⟨some 26, .mv (.tmp 4), some (24, false)⟩,
  ⟨some 27, .minmax false [.tmp 25, .tmp 26], some (24, false)⟩,
  ⟨some 28, .bin .lss (.tmp 27) (.const (.int .i64 1)), some (24, false)⟩,
  ⟨some 29, .pick (.tmp 24) (.const (.bool true)) (.tmp 28), none⟩,
  ⟨some 30, .mv (.tmp 29), none⟩,
  ⟨some 31, .mv (.tmp 3), some (30, false)⟩,
  ⟨some 32, .fieldAddr 0 (.tmp 5), some (30, false)⟩,
  ⟨some 33, .load false [.int .i64] (.tmp 32), some (30, false)⟩,
  ⟨some 34, .bin .gtr (.tmp 31) (.tmp 33), some (30, false)⟩,
  ⟨some 35, .pick (.tmp 30) (.const (.bool true)) (.tmp 34), none⟩,
  ⟨some 36, .mv (.tmp 35), none⟩,
  ⟨some 37, .mv (.tmp 4), some (36, false)⟩,
  ⟨some 38, .fieldAddr 1 (.tmp 5), some (36, false)⟩,
  ⟨some 39, .load false [.int .i64] (.tmp 38), some (36, false)⟩,
  ⟨some 40, .bin .gtr (.tmp 37) (.tmp 39), some (36, false)⟩,
  ⟨some 41, .pick (.tmp 36) (.const (.bool true)) (.tmp 40), none⟩,
  ⟨some 42, .mv (.tmp 41), none⟩,
  ⟨some 43, .mv (.tmp 1), some (42, false)⟩,
  ⟨some 44, .fieldAddr 0 (.tmp 5), some (42, false)⟩,
  ⟨some 45, .load false [.int .i64] (.tmp 44), some (42, false)⟩,
  ⟨some 46, .mv (.tmp 3), some (42, false)⟩,
  ⟨some 47, .bin .sub (.tmp 45) (.tmp 46), some (42, false)⟩,
  ⟨some 48, .bin .gtr (.tmp 43) (.tmp 47), some (42, false)⟩,
  ⟨some 49, .pick (.tmp 42) (.const (.bool true)) (.tmp 48), none⟩,
  ⟨some 50, .mv (.tmp 49), none⟩,
  ⟨some 51, .mv (.tmp 2), some (50, false)⟩,
  ⟨some 52, .fieldAddr 1 (.tmp 5), some (50, false)⟩,
  ⟨some 53, .load false [.int .i64] (.tmp 52), some (50, false)⟩,
  ⟨some 54, .mv (.tmp 4), some (50, false)⟩,
  ⟨some 55, .bin .sub (.tmp 53) (.tmp 54), some (50, false)⟩,
  ⟨some 56, .bin .gtr (.tmp 51) (.tmp 55), some (50, false)⟩,
  ⟨some 57, .pick (.tmp 50) (.const (.bool true)) (.tmp 56), none⟩]
def o10_7 : List AOper := [⟨some 58, .build [.int .i64 0, .int .i64 0, .slice none 0 0] [], none⟩,
  ⟨none, .store 3 (.tmp 10) (.tmp 58), none⟩,
  ⟨some 11, .mv (.const (.bool false)), none⟩]
def o10_11 : List AOper := [⟨some 59, .mv (.tmp 3), none⟩,
  ⟨some 60, .mv (.tmp 4), none⟩,
  ⟨some 61, .build [.int .i64 0, .int .i64 0, .slice none 0 0] [(0, 1, .tmp 59), (1, 1, .tmp 60)], none⟩,
  ⟨some 12, .alloc [.int .i64 0, .int .i64 0, .slice none 0 0], none⟩,
  ⟨none, .store 3 (.tmp 12) (.tmp 61), none⟩]
def o10_14 : List AOper := [⟨some 62, .mv (.tmp 4), none⟩,
  ⟨some 63, .mv (.const (.int .i64 0)), none⟩]
def o10_18 : List AOper := [⟨some 64, .bin .lss (.tmp 63) (.tmp 62), none⟩]
def o10_26 : List AOper := [⟨some 65, .mv (.tmp 63), none⟩,
  ⟨some 13, .mv (.tmp 65), none⟩]
def o10_28 : List AOper := [⟨some 66, .mv (.tmp 2), none⟩,
  ⟨some 67, .mv (.tmp 13), none⟩,
  ⟨some 68, .bin .add (.tmp 66) (.tmp 67), none⟩,
  ⟨some 69, .fieldAddr 0 (.tmp 5), none⟩,
  ⟨some 70, .load false [.int .i64] (.tmp 69), none⟩,
  ⟨some 71, .bin .mul (.tmp 68) (.tmp 70), none⟩,
  ⟨some 72, .mv (.tmp 1), none⟩,
  ⟨some 73, .bin .add (.tmp 71) (.tmp 72), none⟩,
  ⟨some 14, .mv (.tmp 73), none⟩]
def o10_29 : List (AOper × Option Nat) := [(⟨some 74, .fieldAddr 2 (.tmp 12), none⟩, none),
  (⟨some 75, .load false [.slice] (.tmp 74), none⟩, none),
  (⟨some 76, .fieldAddr 2 (.tmp 5), none⟩, none),
  (⟨some 77, .load false [.slice] (.tmp 76), none⟩, none),
  (⟨some 78, .mv (.tmp 14), none⟩, none),
  (⟨some 79, .mv (.tmp 14), none⟩, none),
  (⟨some 80, .mv (.tmp 3), none⟩, none),
  (⟨some 81, .bin .add (.tmp 79) (.tmp 80), none⟩, none),
  (⟨some 82, .slice 3 (.tmp 77) (some (.tmp 78)) (some (.tmp 81)), none⟩, none),
  (⟨some 83, .append 3 24 (.tmp 75) (.tmp 82), none⟩, none),
  (⟨some 84, .fieldAddr 2 (.tmp 12), none⟩, none),
  (⟨none, .store 1 (.tmp 84) (.tmp 83), none⟩, none)]
def o10_30 : List AOper := [⟨some 85, .bin .add (.tmp 63) (.const (.int .i64 1)), none⟩,
  ⟨some 63, .mv (.tmp 85), none⟩]
def c10_30 : ACode := .ops o10_30
def b10_16 : ACode := .post (.seq (.ops o10_18) (.seq (.cond (.tmp 64) (.skip) (.exit 0)) (.seq (.block 1 (.seq (.ops o10_26) (.seq (.ops o10_28) (.draw [] 0 o10_29 [])))) (.clear [0, 4, 6, 7, 8, 9, 11, 13, 14, 15, 16, 17, 18, 19, 20, 21, 22, 23, 24, 25, 26, 27, 28, 29, 30, 31, 32, 33, 34, 35, 36, 37, 38, 39, 40, 41, 42, 43, 44, 45, 46, 47, 48, 49, 50, 51, 52, 53, 54, 55, 56, 57, 58, 59, 60, 61, 64, 65, 66, 67, 68, 69, 70, 71, 72, 73, 74, 75, 76, 77, 78, 79, 80, 81, 82, 83, 84, 85, 86] c10_30)))) [0, 4, 6, 7, 8, 9, 11, 13, 14, 15, 16, 17, 18, 19, 20, 21, 22, 23, 24, 25, 26, 27, 28, 29, 30, 31, 32, 33, 34, 35, 36, 37, 38, 39, 40, 41, 42, 43, 44, 45, 46, 47, 48, 49, 50, 51, 52, 53, 54, 55, 56, 57, 58, 59, 60, 61, 64, 65, 66, 67, 68, 69, 70, 71, 72, 73, 74, 75, 76, 77, 78, 79, 80, 81, 82, 83, 84, 85, 86]
def o10_32 : List AOper := [⟨some 86, .load true [.int .i64, .int .i64, .slice] (.tmp 12), none⟩,
  ⟨none, .store 3 (.tmp 10) (.tmp 86), none⟩,
  ⟨some 11, .mv (.const (.bool true)), none⟩]
def c10_31 : ACode := .seq (.ops o10_32) (.ret)
def c10_0 : ACode := .seq (.ops o10_1) (.seq (.seq (.ops o10_4) (.cond (.tmp 57) (.seq (.ops o10_7) (.ret)) (.skip))) (.seq (.ops o10_11) (.seq (.seq (.ops o10_14) (.block 0 (.clear [0, 4, 6, 7, 8, 9, 11, 13, 14, 15, 16, 17, 18, 19, 20, 21, 22, 23, 24, 25, 26, 27, 28, 29, 30, 31, 32, 33, 34, 35, 36, 37, 38, 39, 40, 41, 42, 43, 44, 45, 46, 47, 48, 49, 50, 51, 52, 53, 54, 55, 56, 57, 58, 59, 60, 61, 64, 65, 66, 67, 68, 69, 70, 71, 72, 73, 74, 75, 76, 77, 78, 79, 80, 81, 82, 83, 84, 85, 86] (.loop b10_16)))) (.clear [0, 1, 2, 3, 4, 5, 6, 7, 8, 9, 11, 13, 14, 15, 16, 17, 18, 19, 20, 21, 22, 23, 24, 25, 26, 27, 28, 29, 30, 31, 32, 33, 34, 35, 36, 37, 38, 39, 40, 41, 42, 43, 44, 45, 46, 47, 48, 49, 50, 51, 52, 53, 54, 55, 56, 57, 58, 59, 60, 61, 62, 63, 64, 65, 66, 67, 68, 69, 70, 71, 72, 73, 74, 75, 76, 77, 78, 79, 80, 81, 82, 83, 84, 85, 86] c10_31))))
def a10 : AFun := ⟨87, [.cell true [.int .i64, .int .i64, .slice] 10, .tmp 11], c10_0⟩
theorem ok10 : OkFun Try.prog 10 a10 := ⟨Try.f10, Try.f10.body.getD .skip, Try.func10, by kernel_rfl, by kernel_rfl, by kernel_rfl, by kernel_rfl, by kernel_rfl⟩
/-! #### mip.Double -/
def o11_1 : List AOper := [⟨some 3, .box (.tmp 0), none⟩,
  ⟨some 6, .alloc [.int .i64 0, .int .i64 0, .slice none 0 0], none⟩,
  ⟨some 7, .mv (.const (.bool false)), none⟩]
def o11_4 : List (AOper × Option Nat) := [(⟨some 11, .mv (.tmp 1), none⟩, none),
  (⟨some 12, .mv (.tmp 2), none⟩, none),
  (⟨some 13, .minmax false [.tmp 11, .tmp 12], none⟩, none),
  (⟨some 14, .bin .lss (.tmp 13) (.const (.int .i64 1)), none⟩, none),
  (⟨some 15, .mv (.tmp 14), none⟩, none),
  (⟨some 16, .mv (.tmp 1), some (15, false)⟩, none),
  (⟨some 17, .mv (.tmp 2), some (15, false)⟩, none),
  (⟨some 18, .minmax true [.tmp 16, .tmp 17], some (15, false)⟩, none),
  (⟨some 19, .bin .gtr (.tmp 18) (.const (.int .i64 256)), some (15, false)⟩, none),
  (⟨some 20, .pick (.tmp 15) (.const (.bool true)) (.tmp 19), none⟩, none),
  (⟨some 21, .mv (.tmp 20), none⟩, none),
  (⟨some 22, .mv (.tmp 1), some (21, false)⟩, none),
  (⟨some 23, .call true (.func 24) [.tmp 22] [(false, [.int .i64])] true, some (21, false)⟩, none),
  (⟨some 24, .fieldAddr 0 (.tmp 3), some (21, false)⟩, none),
  (⟨some 25, .load false [.int .i64] (.tmp 24), some (21, false)⟩, none),
  (⟨some 26, .bin .neq (.tmp 23) (.tmp 25), some (21, false)⟩, none),
  (⟨some 27, .pick (.tmp 21) (.const (.bool true)) (.tmp 26), none⟩, none),
  (⟨some 28, .mv (.tmp 27), none⟩, none),
  (⟨some 29, .mv (.tmp 2), some (28, false)⟩, none),
  (⟨some 30, .call true (.func 24) [.tmp 29] [(false, [.int .i64])] true, some (28, false)⟩, none),
  (⟨some 31, .fieldAddr 1 (.tmp 3), some (28, false)⟩, none),
  (⟨some 32, .load false [.int .i64] (.tmp 31), some (28, false)⟩, none),
  (⟨some 33, .bin .neq (.tmp 30) (.tmp 32), some (28, false)⟩, none),
  (⟨some 34, .pick (.tmp 28) (.const (.bool true)) (.tmp 33), none⟩, none),
  (⟨some 35, .mv (.tmp 34), none⟩, none),
  (⟨some 36, .load true [.int .i64, .int .i64, .slice] (.tmp 3), some (35, false)⟩, none),
  (⟨some 37, .call false (.func 22) [.tmp 36] [(false, [.bool])] true, some (35, false)⟩, none),
  (⟨some 38, .un .not (.tmp 37), some (35, false)⟩, none),
  (⟨some 39, .pick (.tmp 35) (.const (.bool true)) (.tmp 38), none⟩, none)]
def o11_7 : List AOper := [⟨some 40, .build [.int .i64 0, .int .i64 0, .slice none 0 0] [], none⟩,
  ⟨none, .store 3 (.tmp 6) (.tmp 40), none⟩,
  ⟨some 7, .mv (.const (.bool false)), none⟩]
def o11_11 : List AOper := [⟨some 41, .mv (.tmp 1), none⟩,
  ⟨some 42, .mv (.tmp 2), none⟩,
  ⟨some 43, .mv (.tmp 1), none⟩,
  ⟨some 44, .mv (.tmp 2), none⟩,
  ⟨some 45, .bin .mul (.tmp 43) (.tmp 44), none⟩,
  ⟨some 46, .makeSlice 3 24 [.int .i64 0, .int .i64 0, .int .i64 0] (.const (.int .i64 0)) (.tmp 45), none⟩,
  ⟨some 47, .build [.int .i64 0, .int .i64 0, .slice none 0 0] [(0, 1, .tmp 41), (1, 1, .tmp 42), (2, 1, .tmp 46)], none⟩,
  ⟨some 8, .alloc [.int .i64 0, .int .i64 0, .slice none 0 0], none⟩,
  ⟨none, .store 3 (.tmp 8) (.tmp 47), none⟩]
def o11_14 : List AOper := [⟨some 48, .mv (.tmp 2), none⟩,
  ⟨some 49, .mv (.const (.int .i64 0)), none⟩]
def o11_18 : List AOper := [⟨some 50, .bin .lss (.tmp 49) (.tmp 48), none⟩]
def o11_26 : List AOper := [⟨some 51, .mv (.tmp 49), none⟩,
  ⟨some 9, .mv (.tmp 51), none⟩]
def o11_28 : List AOper := [⟨some 52, .mv (.tmp 1), none⟩,
  ⟨some 53, .mv (.const (.int .i64 0)), none⟩]
def o11_32 : List AOper := [⟨some 54, .bin .lss (.tmp 53) (.tmp 52), none⟩]
def o11_40 : List AOper := [⟨some 55, .mv (.tmp 53), none⟩,
  ⟨some 10, .mv (.tmp 55), none⟩]
def o11_41 : List (AOper × Option Nat) := [(⟨some 56, .fieldAddr 2 (.tmp 8), none⟩, none),
  (⟨some 57, .load false [.slice] (.tmp 56), none⟩, none),
  (⟨some 58, .fieldAddr 2 (.tmp 3), none⟩, none),
  (⟨some 59, .load false [.slice] (.tmp 58), none⟩, none),
  (⟨some 60, .mv (.tmp 9), none⟩, none),
  (⟨some 61, .bin .quo (.tmp 60) (.const (.int .i64 2)), none⟩, none),
  (⟨some 62, .fieldAddr 0 (.tmp 3), none⟩, none),
  (⟨some 63, .load false [.int .i64] (.tmp 62), none⟩, none),
  (⟨some 64, .bin .mul (.tmp 61) (.tmp 63), none⟩, none),
  (⟨some 65, .mv (.tmp 10), none⟩, none),
  (⟨some 66, .bin .quo (.tmp 65) (.const (.int .i64 2)), none⟩, none),
  (⟨some 67, .bin .add (.tmp 64) (.tmp 66), none⟩, none),
  (⟨some 68, .indexAddr 3 (.tmp 59) (.tmp 67), none⟩, none),
  (⟨some 69, .load true [.int .i64, .int .i64, .int .i64] (.tmp 68), none⟩, none),
  (⟨some 70, .buildSlice 3 1 [.int .i64 0, .int .i64 0, .int .i64 0] [(0, 3, .tmp 69)], none⟩, none),
  (⟨some 71, .append 3 24 (.tmp 57) (.tmp 70), none⟩, none),
  (⟨some 72, .fieldAddr 2 (.tmp 8), none⟩, none),
  (⟨none, .store 1 (.tmp 72) (.tmp 71), none⟩, none)]
def o11_42 : List AOper := [⟨some 73, .bin .add (.tmp 53) (.const (.int .i64 1)), none⟩,
  ⟨some 53, .mv (.tmp 73), none⟩]
def c11_42 : ACode := .ops o11_42
def b11_30 : ACode := .post (.seq (.ops o11_32) (.seq (.cond (.tmp 54) (.skip) (.exit 2)) (.seq (.block 3 (.seq (.ops o11_40) (.draw [] 0 o11_41 [(1, 14)]))) (.clear [0, 2, 4, 5, 7, 10, 11, 12, 13, 14, 15, 16, 17, 18, 19, 20, 21, 22, 23, 24, 25, 26, 27, 28, 29, 30, 31, 32, 33, 34, 35, 36, 37, 38, 39, 40, 41, 42, 43, 44, 45, 46, 47, 50, 51, 54, 55, 56, 57, 58, 59, 60, 61, 62, 63, 64, 65, 66, 67, 68, 69, 70, 71, 72, 73, 74, 75] c11_42)))) [0, 2, 4, 5, 7, 10, 11, 12, 13, 14, 15, 16, 17, 18, 19, 20, 21, 22, 23, 24, 25, 26, 27, 28, 29, 30, 31, 32, 33, 34, 35, 36, 37, 38, 39, 40, 41, 42, 43, 44, 45, 46, 47, 50, 51, 54, 55, 56, 57, 58, 59, 60, 61, 62, 63, 64, 65, 66, 67, 68, 69, 70, 71, 72, 73, 74, 75]
def o11_43 : List AOper := [⟨some 74, .bin .add (.tmp 49) (.const (.int .i64 1)), none⟩,
  ⟨some 49, .mv (.tmp 74), none⟩]
def c11_43 : ACode := .ops o11_43
def b11_16 : ACode := .post (.seq (.ops o11_18) (.seq (.cond (.tmp 50) (.skip) (.exit 0)) (.seq (.block 1 (.seq (.ops o11_26) (.seq (.ops o11_28) (.block 2 (.clear [0, 2, 4, 5, 7, 10, 11, 12, 13, 14, 15, 16, 17, 18, 19, 20, 21, 22, 23, 24, 25, 26, 27, 28, 29, 30, 31, 32, 33, 34, 35, 36, 37, 38, 39, 40, 41, 42, 43, 44, 45, 46, 47, 50, 51, 54, 55, 56, 57, 58, 59, 60, 61, 62, 63, 64, 65, 66, 67, 68, 69, 70, 71, 72, 73, 74, 75] (.loop b11_30)))))) (.clear [0, 2, 4, 5, 7, 9, 10, 11, 12, 13, 14, 15, 16, 17, 18, 19, 20, 21, 22, 23, 24, 25, 26, 27, 28, 29, 30, 31, 32, 33, 34, 35, 36, 37, 38, 39, 40, 41, 42, 43, 44, 45, 46, 47, 50, 51, 52, 53, 54, 55, 56, 57, 58, 59, 60, 61, 62, 63, 64, 65, 66, 67, 68, 69, 70, 71, 72, 73, 74, 75] c11_43)))) [0, 2, 4, 5, 7, 9, 10, 11, 12, 13, 14, 15, 16, 17, 18, 19, 20, 21, 22, 23, 24, 25, 26, 27, 28, 29, 30, 31, 32, 33, 34, 35, 36, 37, 38, 39, 40, 41, 42, 43, 44, 45, 46, 47, 50, 51, 52, 53, 54, 55, 56, 57, 58, 59, 60, 61, 62, 63, 64, 65, 66, 67, 68, 69, 70, 71, 72, 73, 74, 75]
def o11_45 : List AOper := [⟨some 75, .load true [.int .i64, .int .i64, .slice] (.tmp 8), none⟩,
  ⟨none, .store 3 (.tmp 6) (.tmp 75), none⟩,
  ⟨some 7, .mv (.const (.bool true)), none⟩]
def c11_44 : ACode := .seq (.ops o11_45) (.ret)
def c11_0 : ACode := .seq (.ops o11_1) (.seq (.seq (.draw [] 0 o11_4 []) (.cond (.tmp 39) (.seq (.ops o11_7) (.ret)) (.skip))) (.seq (.ops o11_11) (.seq (.seq (.ops o11_14) (.block 0 (.clear [0, 2, 4, 5, 7, 9, 10, 11, 12, 13, 14, 15, 16, 17, 18, 19, 20, 21, 22, 23, 24, 25, 26, 27, 28, 29, 30, 31, 32, 33, 34, 35, 36, 37, 38, 39, 40, 41, 42, 43, 44, 45, 46, 47, 50, 51, 52, 53, 54, 55, 56, 57, 58, 59, 60, 61, 62, 63, 64, 65, 66, 67, 68, 69, 70, 71, 72, 73, 74, 75] (.loop b11_16)))) (.clear [0, 1, 2, 3, 4, 5, 7, 9, 10, 11, 12, 13, 14, 15, 16, 17, 18, 19, 20, 21, 22, 23, 24, 25, 26, 27, 28, 29, 30, 31, 32, 33, 34, 35, 36, 37, 38, 39, 40, 41, 42, 43, 44, 45, 46, 47, 48, 49, 50, 51, 52, 53, 54, 55, 56, 57, 58, 59, 60, 61, 62, 63, 64, 65, 66, 67, 68, 69, 70, 71, 72, 73, 74, 75] c11_44))))
def a11 : AFun := ⟨76, [.cell true [.int .i64, .int .i64, .slice] 6, .tmp 7], c11_0⟩
theorem ok11 : OkFun Try.prog 11 a11 := ⟨Try.f11, Try.f11.body.getD .skip, Try.func11, by kernel_rfl, by kernel_rfl, by kernel_rfl, by kernel_rfl, by kernel_rfl⟩
/-! #### skylightref41.Same -/
def o12_1 : List AOper := [⟨some 2, .box (.tmp 0), none⟩,
  ⟨some 3, .box (.tmp 1), none⟩,
  ⟨some 4, .mv (.const (.bool false)), none⟩]
def o12_4 : List AOper := [⟨some 6, .fieldAddr 0 (.tmp 2), none⟩,
  ⟨some 7, .load false [.int .i64] (.tmp 6), none⟩,
  ⟨some 8, .fieldAddr 0 (.tmp 3), none⟩,
  ⟨some 9, .load false [.int .i64] (.tmp 8), none⟩,
  ⟨some 10, .bin .neq (.tmp 7) (.tmp 9), none⟩,
  ⟨some 11, .mv (.tmp 10), none⟩,
  ⟨some 12, .fieldAddr 1 (.tmp 2), some (11, false)⟩,
  ⟨some 13, .load false [.int .i64] (.tmp 12), some (11, false)⟩,
  ⟨some 14, .fieldAddr 1 (.tmp 3), some (11, false)⟩,
  ⟨some 15, .load false [.int .i64] (.tmp 14), some (11, false)⟩,
  ⟨some 16, .bin .neq (.tmp 13) (.tmp 15), some (11, false)⟩,
  ⟨some 17, .pick (.tmp 11) (.const (.bool true)) (.tmp 16), none⟩,
  ⟨some 18, .mv (.tmp 17), none⟩,
  ⟨some 19, .fieldAddr 2 (.tmp 2), some (18, false)⟩,
  ⟨some 20, .load false [.slice] (.tmp 19), some (18, false)⟩,
  ⟨some 21, .len (.tmp 20), some (18, false)⟩,
  ⟨some 22, .fieldAddr 2 (.tmp 3), some (18, false)⟩,
  ⟨some 23, .load false [.slice] (.tmp 22), some (18, false)⟩,
  ⟨some 24, .len (.tmp 23), some (18, false)⟩,
  ⟨some 25, .bin .neq (.tmp 21) (.tmp 24), some (18, false)⟩,
  ⟨some 26, .pick (.tmp 18) (.const (.bool true)) (.tmp 25), none⟩]
def o12_7 : List AOper := [⟨some 4, .mv (.const (.bool false)), none⟩]
def o12_12 : List AOper := [⟨some 5, .mv (.const (.int .i64 0)), none⟩]
def o12_17 : List AOper := [⟨some 27, .mv (.tmp 5), none⟩,
  ⟨some 28, .fieldAddr 2 (.tmp 2), none⟩,
  ⟨some 29, .load false [.slice] (.tmp 28), none⟩,
  ⟨some 30, .len (.tmp 29), none⟩,
  ⟨some 31, .bin .lss (.tmp 27) (.tmp 30), none⟩]
def o12_24 : List (AOper × Option Nat) := [(⟨some 34, .fieldAddr 2 (.tmp 2), none⟩, none),
  (⟨some 35, .load false [.slice] (.tmp 34), none⟩, none),
  (⟨some 36, .mv (.tmp 5), none⟩, none),
  (⟨some 37, .indexAddr 3 (.tmp 35) (.tmp 36), none⟩, none),
  (⟨some 38, .load true [.int .i64, .int .i64, .int .i64] (.tmp 37), none⟩, none),
  (⟨some 39, .fieldAddr 2 (.tmp 3), none⟩, none),
  (⟨some 40, .load false [.slice] (.tmp 39), none⟩, none),
  (⟨some 41, .mv (.tmp 5), none⟩, none),
  (⟨some 42, .indexAddr 3 (.tmp 40) (.tmp 41), none⟩, none),
  (⟨some 43, .load true [.int .i64, .int .i64, .int .i64] (.tmp 42), none⟩, none),
  (⟨some 44, .eqAgg [.int .i64, .int .i64, .int .i64] true (.tmp 38) (.tmp 43), none⟩, none)]
def o12_27 : List AOper := [⟨some 4, .mv (.const (.bool false)), none⟩]
def o12_30 : List AOper := [⟨some 32, .mv (.tmp 5), none⟩,
  ⟨some 33, .bin .add (.tmp 32) (.const (.int .i64 1)), none⟩,
  ⟨some 5, .mv (.tmp 33), none⟩]
def c12_30 : ACode := .ops o12_30
def b12_14 : ACode := .post (.seq (.seq (.ops o12_17) (.cond (.tmp 31) (.skip) (.exit 0))) (.seq (.block 1 (.seq (.draw [] 0 o12_24 []) (.cond (.tmp 44) (.seq (.ops o12_27) (.ret)) (.skip)))) (.clear [0, 1, 4, 6, 7, 8, 9, 10, 11, 12, 13, 14, 15, 16, 17, 18, 19, 20, 21, 22, 23, 24, 25, 26, 27, 28, 29, 30, 31, 32, 33, 34, 35, 36, 37, 38, 39, 40, 41, 42, 43, 44] c12_30))) [0, 1, 4, 6, 7, 8, 9, 10, 11, 12, 13, 14, 15, 16, 17, 18, 19, 20, 21, 22, 23, 24, 25, 26, 27, 28, 29, 30, 31, 32, 33, 34, 35, 36, 37, 38, 39, 40, 41, 42, 43, 44]
def o12_32 : List AOper := [⟨some 4, .mv (.const (.bool true)), none⟩]
def c12_31 : ACode := .seq (.ops o12_32) (.ret)
def c12_0 : ACode := .seq (.ops o12_1) (.seq (.seq (.ops o12_4) (.cond (.tmp 26) (.seq (.ops o12_7) (.ret)) (.skip))) (.seq (.seq (.ops o12_12) (.block 0 (.clear [0, 1, 4, 6, 7, 8, 9, 10, 11, 12, 13, 14, 15, 16, 17, 18, 19, 20, 21, 22, 23, 24, 25, 26, 27, 28, 29, 30, 31, 32, 33, 34, 35, 36, 37, 38, 39, 40, 41, 42, 43, 44] (.loop b12_14)))) (.clear [0, 1, 2, 3, 4, 5, 6, 7, 8, 9, 10, 11, 12, 13, 14, 15, 16, 17, 18, 19, 20, 21, 22, 23, 24, 25, 26, 27, 28, 29, 30, 31, 32, 33, 34, 35, 36, 37, 38, 39, 40, 41, 42, 43, 44] c12_31)))
def a12 : AFun := ⟨45, [.tmp 4], c12_0⟩
theorem ok12 : OkFun Try.prog 12 a12 := ⟨Try.f12, Try.f12.body.getD .skip, Try.func12, by kernel_rfl, by kernel_rfl, by kernel_rfl, by kernel_rfl, by kernel_rfl⟩
/-! #### skylightlaw51.back -/
def o13_1 : List AOper := [⟨some 1, .box (.tmp 0), none⟩,
  ⟨some 2, .alloc [.int .i64 0, .int .i64 0, .slice none 0 0], none⟩]
def o13_3 : List AOper := [⟨some 3, .fieldAddr 0 (.tmp 1), none⟩,
  ⟨some 4, .load false [.int .i64] (.tmp 3), none⟩,
  ⟨some 5, .fieldAddr 1 (.tmp 1), none⟩,
  ⟨some 6, .load false [.int .i64] (.tmp 5), none⟩,
  ⟨some 7, .fieldAddr 2 (.tmp 1), none⟩,
  ⟨some 8, .load false [.slice] (.tmp 7), none⟩,
  ⟨some 9, .build [.int .i64 0, .int .i64 0, .slice none 0 0] [(0, 1, .tmp 4), (1, 1, .tmp 6), (2, 1, .tmp 8)], none⟩,
  ⟨none, .store 3 (.tmp 2) (.tmp 9), none⟩]
def c13_0 : ACode := .seq (.ops o13_1) (.seq (.ops o13_3) (.ret))
def a13 : AFun := ⟨10, [.cell true [.int .i64, .int .i64, .slice] 2], c13_0⟩
theorem ok13 : OkFun Try.prog 13 a13 := ⟨Try.f13, Try.f13.body.getD .skip, Try.func13, by kernel_rfl, by kernel_rfl, by kernel_rfl, by kernel_rfl, by kernel_rfl⟩
/-! #### mip.Pyramid -/
def o14_1 : List AOper := [⟨some 1, .box (.tmp 0), none⟩,
  ⟨some 2, .mv (.const (.slice none 0 0)), none⟩]
def o14_4 : List AOper := [⟨some 3, .load true [.int .i64, .int .i64, .slice] (.tmp 1), none⟩,
  ⟨some 4, .call false (.func 22) [.tmp 3] [(false, [.bool])] true, none⟩,
  ⟨some 5, .un .not (.tmp 4), none⟩]
def o14_7 : List AOper := [⟨some 2, .mv (.const (.slice none 0 0)), none⟩]
def o14_11 : List AOper := [⟨some 6, .load true [.int .i64, .int .i64, .slice] (.tmp 1), none⟩,
  ⟨some 7, .call false (.func 26) [.tmp 6] [(false, [.any])] true, none⟩,
  ⟨some 8, .call false (.func 25) [.tmp 7] [(false, [.slice])] true, none⟩,
  ⟨some 2, .mv (.tmp 8), none⟩]
def c14_0 : ACode := .seq (.ops o14_1) (.seq (.seq (.ops o14_4) (.cond (.tmp 5) (.seq (.ops o14_7) (.ret)) (.skip))) (.seq (.ops o14_11) (.ret)))
def a14 : AFun := ⟨9, [.tmp 2], c14_0⟩
theorem ok14 : OkFun Try.prog 14 a14 := ⟨Try.f14, Try.f14.body.getD .skip, Try.func14, by kernel_rfl, by kernel_rfl, by kernel_rfl, by kernel_rfl, by kernel_rfl⟩
/-! #### mip.Levels -/
def o15_1 : List AOper := [⟨some 4, .mv (.const (.int .i64 0)), none⟩]
def o15_4 : List AOper := [⟨some 5, .mv (.tmp 0), none⟩,
  ⟨some 6, .mv (.tmp 1), none⟩,
  ⟨some 7, .minmax false [.tmp 5, .tmp 6], none⟩,
  ⟨some 8, .bin .lss (.tmp 7) (.const (.int .i64 1)), none⟩,
  ⟨some 9, .mv (.tmp 8), none⟩,
  ⟨some 10, .mv (.tmp 0), some (9, false)⟩,
  ⟨some 11, .mv (.tmp 1), some (9, false)⟩,
  ⟨some 12, .minmax true [.tmp 10, .tmp 11], some (9, false)⟩,
  ⟨some 13, .bin .gtr (.tmp 12) (.const (.int .i64 256)), some (9, false)⟩,
  ⟨some 14, .pick (.tmp 9) (.const (.bool true)) (.tmp 13), none⟩]
def o15_7 : List AOper := [⟨some 4, .mv (.const (.int .i64 0)), none⟩]
def o15_11 : List AOper := [⟨some 15, .mv (.tmp 0), none⟩,
  ⟨some 16, .mv (.tmp 1), none⟩,
  ⟨some 17, .minmax true [.tmp 15, .tmp 16], none⟩,
  ⟨some 18, .bin .sub (.tmp 17) (.const (.int .i64 1)), none⟩,
  ⟨some 19, .conv .u64 (.tmp 18), none⟩,
  ⟨some 20, .call true (.func 27) [.tmp 19] [(false, [.int .i64])] true, none⟩,
  ⟨some 21, .bin .add (.const (.int .i64 1)) (.tmp 20), none⟩,
  ⟨some 4, .mv (.tmp 21), none⟩]
def c15_0 : ACode := .seq (.ops o15_1) (.seq (.seq (.ops o15_4) (.cond (.tmp 14) (.seq (.ops o15_7) (.ret)) (.skip))) (.seq (.ops o15_11) (.ret)))
def a15 : AFun := ⟨22, [.tmp 4], c15_0⟩
theorem ok15 : OkFun Try.prog 15 a15 := ⟨Try.f15, Try.f15.body.getD .skip, Try.func15, by kernel_rfl, by kernel_rfl, by kernel_rfl, by kernel_rfl, by kernel_rfl⟩
/-! #### skylightref51.Pyramid -/
def o16_1 : List AOper := [⟨some 1, .box (.tmp 0), none⟩,
  ⟨some 2, .mv (.const (.slice none 0 0)), none⟩]
def o16_4 : List AOper := [⟨some 4, .load true [.int .i64, .int .i64, .slice] (.tmp 1), none⟩,
  ⟨some 5, .call false (.func 6) [.tmp 4] [(false, [.bool])] true, none⟩,
  ⟨some 6, .un .not (.tmp 5), none⟩]
def o16_7 : List AOper := [⟨some 2, .mv (.const (.slice none 0 0)), none⟩]
def o16_11 : List AOper := [⟨some 7, .load true [.int .i64, .int .i64, .slice] (.tmp 1), none⟩,
  ⟨some 8, .buildSlice 3 1 [.int .i64 0, .int .i64 0, .slice none 0 0] [(0, 3, .tmp 7)], none⟩,
  ⟨some 3, .mv (.tmp 8), none⟩]
def o16_14 : List AOper := [⟨some 9, .fieldAddr 0 (.tmp 1), none⟩,
  ⟨some 10, .load false [.int .i64] (.tmp 9), none⟩,
  ⟨some 11, .fieldAddr 1 (.tmp 1), none⟩,
  ⟨some 12, .load false [.int .i64] (.tmp 11), none⟩,
  ⟨some 13, .bin .mul (.tmp 10) (.tmp 12), none⟩,
  ⟨some 14, .bin .gtr (.tmp 13) (.const (.int .i64 1)), none⟩]
def o16_16 : List AOper := [⟨some 15, .mv (.tmp 3), none⟩,
  ⟨some 16, .load true [.int .i64, .int .i64, .slice] (.tmp 1), none⟩,
  ⟨some 17, .call false (.func 19) [.tmp 16] [(true, [.int .i64, .int .i64, .slice])] true, none⟩,
  ⟨some 18, .call false (.func 16) [.tmp 17] [(false, [.slice])] true, none⟩,
  ⟨some 19, .append 3 40 (.tmp 15) (.tmp 18), none⟩,
  ⟨some 3, .mv (.tmp 19), none⟩]
def o16_19 : List AOper := [⟨some 20, .mv (.tmp 3), none⟩,
  ⟨some 2, .mv (.tmp 20), none⟩]
def c16_18 : ACode := .seq (.ops o16_19) (.ret)
def c16_0 : ACode := .seq (.ops o16_1) (.seq (.seq (.ops o16_4) (.cond (.tmp 6) (.seq (.ops o16_7) (.ret)) (.skip))) (.seq (.ops o16_11) (.seq (.seq (.ops o16_14) (.cond (.tmp 14) (.ops o16_16) (.skip))) (.clear [0, 1, 2, 4, 5, 6, 7, 8, 9, 10, 11, 12, 13, 14, 15, 16, 17, 18, 19, 20] c16_18))))
def a16 : AFun := ⟨21, [.tmp 2], c16_0⟩
theorem ok16 : OkFun Try.prog 16 a16 := ⟨Try.f16, Try.f16.body.getD .skip, Try.func16, by kernel_rfl, by kernel_rfl, by kernel_rfl, by kernel_rfl, by kernel_rfl⟩
/-! #### skylightref51.Double -/
def o17_1 : List AOper := [⟨some 3, .box (.tmp 0), none⟩,
  ⟨some 6, .alloc [.int .i64 0, .int .i64 0, .slice none 0 0], none⟩,
  ⟨some 7, .mv (.const (.bool false)), none⟩]
def o17_4 : List (AOper × Option Nat) := [(⟨some 10, .load true [.int .i64, .int .i64, .slice] (.tmp 3), none⟩, none),
  (⟨some 11, .call false (.func 6) [.tmp 10] [(false, [.bool])] true, none⟩, none),
  (⟨some 12, .un .not (.tmp 11), none⟩, none),
  (⟨some 13, .mv (.tmp 12), none⟩, none),
  (⟨some 14, .mv (.tmp 1), some (13, false)⟩, none),
  (⟨some 15, .bin .lss (.tmp 14) (.const (.int .i64 1)), some (13, false)⟩, none),
  (⟨some 16, .pick (.tmp 13) (.const (.bool true)) (.tmp 15), none⟩, none),
  (⟨some 17, .mv (.tmp 16), none⟩, none),
  (⟨some 18, .mv (.tmp 2), some (17, false)⟩, none),
  (⟨some 19, .bin .lss (.tmp 18) (.const (.int .i64 1)), some (17, false)⟩, none),
  (⟨some 20, .pick (.tmp 17) (.const (.bool true)) (.tmp 19), none⟩, none),
  (⟨some 21, .mv (.tmp 20), none⟩, none),
  (⟨some 22, .mv (.tmp 1), some (21, false)⟩, none),
  (⟨some 23, .bin .gtr (.tmp 22) (.const (.int .i64 256)), some (21, false)⟩, none),
  (⟨some 24, .pick (.tmp 21) (.const (.bool true)) (.tmp 23), none⟩, none),
  (⟨some 25, .mv (.tmp 24), none⟩, none),
  (⟨some 26, .mv (.tmp 2), some (25, false)⟩, none),
  (⟨some 27, .bin .gtr (.tmp 26) (.const (.int .i64 256)), some (25, false)⟩, none),
  (⟨some 28, .pick (.tmp 25) (.const (.bool true)) (.tmp 27), none⟩, none),
  (⟨some 29, .mv (.tmp 28), none⟩, none),
  (⟨some 30, .mv (.tmp 1), some (29, false)⟩, none),
  (⟨some 31, .call true (.func 28) [.tmp 30] [(false, [.int .i64])] true, some (29, false)⟩, none),
  (⟨some 32, .fieldAddr 0 (.tmp 3), some (29, false)⟩, none),
  (⟨some 33, .load false [.int .i64] (.tmp 32), some (29, false)⟩, none),
  (⟨some 34, .bin .neq (.tmp 31) (.tmp 33), some (29, false)⟩, none),
  (⟨some 35, .pick (.tmp 29) (.const (.bool true)) (.tmp 34), none⟩, none),
  (⟨some 36, .mv (.tmp 35), none⟩, none),
  (⟨some 37, .mv (.tmp 2), some (36, false)⟩, none),
  (⟨some 38, .call true (.func 28) [.tmp 37] [(false, [.int .i64])] true, some (36, false)⟩, none),
  (⟨some 39, .fieldAddr 1 (.tmp 3), some (36, false)⟩, none),
  (⟨some 40, .load false [.int .i64] (.tmp 39), some (36, false)⟩, none),
  (⟨some 41, .bin .neq (.tmp 38) (.tmp 40), some (36, false)⟩, none),
  (⟨some 42, .pick (.tmp 36) (.const (.bool true)) (.tmp 41), none⟩, none)]
def o17_7 : List AOper := [⟨some 43, .build [.int .i64 0, .int .i64 0, .slice none 0 0] [], none⟩,
  ⟨none, .store 3 (.tmp 6) (.tmp 43), none⟩,
  ⟨some 7, .mv (.const (.bool false)), none⟩]
def o17_11 : List AOper := [⟨some 44, .mv (.tmp 1), none⟩,
  ⟨some 45, .mv (.tmp 2), none⟩,
  ⟨some 46, .build [.int .i64 0, .int .i64 0, .slice none 0 0] [(0, 1, .tmp 44), (1, 1, .tmp 45)], none⟩,
  ⟨some 8, .alloc [.int .i64 0, .int .i64 0, .slice none 0 0], none⟩,
  ⟨none, .store 3 (.tmp 8) (.tmp 46), none⟩]
def o17_14 : List AOper := [⟨some 9, .mv (.const (.int .i64 0)), none⟩]
def o17_19 : List AOper := [⟨some 47, .mv (.tmp 9), none⟩,
  ⟨some 48, .mv (.tmp 1), none⟩,
  ⟨some 49, .mv (.tmp 2), none⟩,
  ⟨some 50, .bin .mul (.tmp 48) (.tmp 49), none⟩,
  ⟨some 51, .bin .lss (.tmp 47) (.tmp 50), none⟩]
def o17_25 : List (AOper × Option Nat) := [(⟨some 54, .fieldAddr 2 (.tmp 8), none⟩, none),
  (⟨some 55, .load false [.slice] (.tmp 54), none⟩, none),
  (⟨some 56, .load true [.int .i64, .int .i64, .slice] (.tmp 3), none⟩, none),
  (⟨some 57, .mv (.tmp 9), none⟩, none),
  (⟨some 58, .mv (.tmp 1), none⟩, none),
  (⟨some 59, .bin .rem (.tmp 57) (.tmp 58), none⟩, none),
  (⟨some 60, .bin .quo (.tmp 59) (.const (.int .i64 2)), none⟩, none),
  (⟨some 61, .mv (.tmp 9), none⟩, none),
  (⟨some 62, .mv (.tmp 1), none⟩, none),
  (⟨some 63, .bin .quo (.tmp 61) (.tmp 62), none⟩, none),
  (⟨some 64, .bin .quo (.tmp 63) (.const (.int .i64 2)), none⟩, none),
  (⟨some 65, .call false (.func 29) [.tmp 56, .tmp 60, .tmp 64] [(true, [.int .i64, .int .i64, .int .i64])] true, none⟩, none),
  (⟨some 66, .buildSlice 3 1 [.int .i64 0, .int .i64 0, .int .i64 0] [(0, 3, .tmp 65)], none⟩, none),
  (⟨some 67, .append 3 24 (.tmp 55) (.tmp 66), none⟩, none),
  (⟨some 68, .fieldAddr 2 (.tmp 8), none⟩, none),
  (⟨none, .store 1 (.tmp 68) (.tmp 67), none⟩, none)]
def o17_26 : List AOper := [⟨some 52, .mv (.tmp 9), none⟩,
  ⟨some 53, .bin .add (.tmp 52) (.const (.int .i64 1)), none⟩,
  ⟨some 9, .mv (.tmp 53), none⟩]
def c17_26 : ACode := .ops o17_26
def b17_16 : ACode := .post (.seq (.seq (.ops o17_19) (.cond (.tmp 51) (.skip) (.exit 0))) (.seq (.block 1 (.draw [] 0 o17_25 [(1, 11), (1, 12)])) (.clear [0, 4, 5, 7, 10, 11, 12, 13, 14, 15, 16, 17, 18, 19, 20, 21, 22, 23, 24, 25, 26, 27, 28, 29, 30, 31, 32, 33, 34, 35, 36, 37, 38, 39, 40, 41, 42, 43, 44, 45, 46, 47, 48, 49, 50, 51, 52, 53, 54, 55, 56, 57, 58, 59, 60, 61, 62, 63, 64, 65, 66, 67, 68, 69] c17_26))) [0, 4, 5, 7, 10, 11, 12, 13, 14, 15, 16, 17, 18, 19, 20, 21, 22, 23, 24, 25, 26, 27, 28, 29, 30, 31, 32, 33, 34, 35, 36, 37, 38, 39, 40, 41, 42, 43, 44, 45, 46, 47, 48, 49, 50, 51, 52, 53, 54, 55, 56, 57, 58, 59, 60, 61, 62, 63, 64, 65, 66, 67, 68, 69]
def o17_28 : List AOper := [⟨some 69, .load true [.int .i64, .int .i64, .slice] (.tmp 8), none⟩,
  ⟨none, .store 3 (.tmp 6) (.tmp 69), none⟩,
  ⟨some 7, .mv (.const (.bool true)), none⟩]
def c17_27 : ACode := .seq (.ops o17_28) (.ret)
def c17_0 : ACode := .seq (.ops o17_1) (.seq (.seq (.draw [] 0 o17_4 []) (.cond (.tmp 42) (.seq (.ops o17_7) (.ret)) (.skip))) (.seq (.ops o17_11) (.seq (.seq (.ops o17_14) (.block 0 (.clear [0, 4, 5, 7, 10, 11, 12, 13, 14, 15, 16, 17, 18, 19, 20, 21, 22, 23, 24, 25, 26, 27, 28, 29, 30, 31, 32, 33, 34, 35, 36, 37, 38, 39, 40, 41, 42, 43, 44, 45, 46, 47, 48, 49, 50, 51, 52, 53, 54, 55, 56, 57, 58, 59, 60, 61, 62, 63, 64, 65, 66, 67, 68, 69] (.loop b17_16)))) (.clear [0, 1, 2, 3, 4, 5, 7, 9, 10, 11, 12, 13, 14, 15, 16, 17, 18, 19, 20, 21, 22, 23, 24, 25, 26, 27, 28, 29, 30, 31, 32, 33, 34, 35, 36, 37, 38, 39, 40, 41, 42, 43, 44, 45, 46, 47, 48, 49, 50, 51, 52, 53, 54, 55, 56, 57, 58, 59, 60, 61, 62, 63, 64, 65, 66, 67, 68, 69] c17_27))))
def a17 : AFun := ⟨70, [.cell true [.int .i64, .int .i64, .slice] 6, .tmp 7], c17_0⟩
theorem ok17 : OkFun Try.prog 17 a17 := ⟨Try.f17, Try.f17.body.getD .skip, Try.func17, by kernel_rfl, by kernel_rfl, by kernel_rfl, by kernel_rfl, by kernel_rfl⟩
/-! #### skylightref51.Cut -/
def o18_1 : List AOper := [⟨some 5, .box (.tmp 0), none⟩,
  ⟨some 10, .alloc [.int .i64 0, .int .i64 0, .slice none 0 0], none⟩,
  ⟨some 11, .mv (.const (.bool false)), none⟩]
def o18_4 : List AOper := [⟨some 14, .load true [.int .i64, .int .i64, .slice] (.tmp 5), none⟩,
  ⟨some 15, .call false (.func 6) [.tmp 14] [(false, [.bool])] true, none⟩,
  ⟨some 16, .un .not (.tmp 15), none⟩,
  ⟨some 17, .mv (.tmp 16), none⟩,
  ⟨some 18, .mv (.tmp 3), some (17, false)⟩,
  ⟨some 19, .mv (.tmp 4), some (17, false)⟩,
  ⟨some 20, .minmax false [.tmp 18, .tmp 19], some (17, false)⟩,
  ⟨some 21, .bin .lss (.tmp 20) (.const (.int .i64 1)), some (17, false)⟩,
  ⟨some 22, .pick (.tmp 17) (.const (.bool true)) (.tmp 21), none⟩,
  ⟨some 23, .mv (.tmp 22), none⟩,
  ⟨some 24, .mv (.tmp 1), some (23, false)⟩,
  ⟨some 25, .mv (.tmp 2), some (23, false)⟩,
  ⟨some 26, .minmax false [.tmp 24, .tmp 25], some (23, false)⟩,
  ⟨some 27, .bin .lss (.tmp 26) (.const (.int .i64 0)), some (23, false)⟩,
  ⟨some 28, .pick (.tmp 23) (.const (.bool true)) (.tmp 27), none⟩,
  ⟨some 29, .mv (.tmp 28), none⟩,
  ⟨some 30, .mv (.tmp 3), some (29, false)⟩,
  ⟨some 31, .fieldAddr 0 (.tmp 5), some (29, false)⟩,
  ⟨some 32, .load false [.int .i64] (.tmp 31), some (29, false)⟩,
  ⟨some 33, .bin .gtr (.tmp 30) (.tmp 32), some (29, false)⟩,
  ⟨some 34, .pick (.tmp 29) (.const (.bool true)) (.tmp 33), none⟩,
  ⟨some 35, .mv (.tmp 34), none⟩,
  ⟨some 36, .mv (.tmp 4), some (35, false)⟩,
  ⟨some 37, .fieldAddr 1 (.tmp 5), some (35, false)⟩,
  ⟨some 38, .load false [.int .i64] (.tmp 37), some (35, false)⟩,
  ⟨some 39, .bin .gtr (.tmp 36) (.tmp 38), some (35, false)⟩,
  ⟨some 40, .pick (.tmp 35) (.const (.bool true)) (.tmp 39), none⟩,
  ⟨some 41, .mv (.tmp 40), none⟩,
  ⟨some 42, .mv (.tmp 1), some (41, false)⟩,
  ⟨some 43, .fieldAddr 0 (.tmp 5), some (41, false)⟩,
  ⟨some 44, .load false [.int .i64] (.tmp 43), some (41, false)⟩,
  ⟨some 45, .mv (.tmp 3), some (41, false)⟩,
  ⟨some 46, .bin .sub (.tmp 44) (.tmp 45), some (41, false)⟩,
  ⟨some 47, .bin .gtr (.tmp 42) (.tmp 46), some (41, false)⟩,
  ⟨some 48, .pick (.tmp 41) (.const (.bool true)) (.tmp 47), none⟩,
  ⟨some 49, .mv (.tmp 48), none⟩,
  ⟨some 50, .mv (.tmp 2), some (49, false)⟩,
  ⟨some 51, .fieldAddr 1 (.tmp 5), some (49, false)⟩,
  ⟨some 52, .load false [.int .i64] (.tmp 51), some (49, false)⟩,
  ⟨some 53, .mv (.tmp 4), some (49, false)⟩,
  ⟨some 54, .bin .sub (.tmp 52) (.tmp 53), some (49, false)⟩,
  ⟨some 55, .bin .gtr (.tmp 50) (.tmp 54), some (49, false)⟩,
  ⟨some 56, .pick (.tmp 49) (.const (.bool true)) (.tmp 55), none⟩]
def o18_7 : List AOper := [⟨some 57, .build [.int .i64 0, .int .i64 0, .slice none 0 0] [], none⟩,
  ⟨none, .store 3 (.tmp 10) (.tmp 57), none⟩,
  ⟨some 11, .mv (.const (.bool false)), none⟩]
def o18_11 : List AOper := [⟨some 58, .mv (.tmp 3), none⟩,
  ⟨some 59, .mv (.tmp 4), none⟩,
  ⟨some 60, .build [.int .i64 0, .int .i64 0, .slice none 0 0] [(0, 1, .tmp 58), (1, 1, .tmp 59)], none⟩,
  ⟨some 12, .alloc [.int .i64 0, .int .i64 0, .slice none 0 0], none⟩,
  ⟨none, .store 3 (.tmp 12) (.tmp 60), none⟩]
def o18_14 : List AOper := [⟨some 13, .mv (.const (.int .i64 0)), none⟩]
def o18_19 : List AOper := [⟨some 61, .mv (.tmp 13), none⟩,
  ⟨some 62, .mv (.tmp 3), none⟩,
  ⟨some 63, .mv (.tmp 4), none⟩,
  ⟨some 64, .bin .mul (.tmp 62) (.tmp 63), none⟩,
  ⟨some 65, .bin .lss (.tmp 61) (.tmp 64), none⟩]
def o18_25 : List (AOper × Option Nat) := [(⟨some 68, .fieldAddr 2 (.tmp 12), none⟩, none),
  (⟨some 69, .load false [.slice] (.tmp 68), none⟩, none),
  (⟨some 70, .load true [.int .i64, .int .i64, .slice] (.tmp 5), none⟩, none),
  (⟨some 71, .mv (.tmp 1), none⟩, none),
  (⟨some 72, .mv (.tmp 13), none⟩, none),
  (⟨some 73, .mv (.tmp 3), none⟩, none),
  (⟨some 74, .bin .rem (.tmp 72) (.tmp 73), none⟩, none),
  (⟨some 75, .bin .add (.tmp 71) (.tmp 74), none⟩, none),
  (⟨some 76, .mv (.tmp 2), none⟩, none),
  (⟨some 77, .mv (.tmp 13), none⟩, none),
  (⟨some 78, .mv (.tmp 3), none⟩, none),
  (⟨some 79, .bin .quo (.tmp 77) (.tmp 78), none⟩, none),
  (⟨some 80, .bin .add (.tmp 76) (.tmp 79), none⟩, none),
  (⟨some 81, .call false (.func 29) [.tmp 70, .tmp 75, .tmp 80] [(true, [.int .i64, .int .i64, .int .i64])] true, none⟩, none),
  (⟨some 82, .buildSlice 3 1 [.int .i64 0, .int .i64 0, .int .i64 0] [(0, 3, .tmp 81)], none⟩, none),
  (⟨some 83, .append 3 24 (.tmp 69) (.tmp 82), none⟩, none),
  (⟨some 84, .fieldAddr 2 (.tmp 12), none⟩, none),
  (⟨none, .store 1 (.tmp 84) (.tmp 83), none⟩, none)]
def o18_26 : List AOper := [⟨some 66, .mv (.tmp 13), none⟩,
  ⟨some 67, .bin .add (.tmp 66) (.const (.int .i64 1)), none⟩,
  ⟨some 13, .mv (.tmp 67), none⟩]
def c18_26 : ACode := .ops o18_26
def b18_16 : ACode := .post (.seq (.seq (.ops o18_19) (.cond (.tmp 65) (.skip) (.exit 0))) (.seq (.block 1 (.draw [] 0 o18_25 [(1, 13), (1, 14)])) (.clear [0, 6, 7, 8, 9, 11, 14, 15, 16, 17, 18, 19, 20, 21, 22, 23, 24, 25, 26, 27, 28, 29, 30, 31, 32, 33, 34, 35, 36, 37, 38, 39, 40, 41, 42, 43, 44, 45, 46, 47, 48, 49, 50, 51, 52, 53, 54, 55, 56, 57, 58, 59, 60, 61, 62, 63, 64, 65, 66, 67, 68, 69, 70, 71, 72, 73, 74, 75, 76, 77, 78, 79, 80, 81, 82, 83, 84, 85] c18_26))) [0, 6, 7, 8, 9, 11, 14, 15, 16, 17, 18, 19, 20, 21, 22, 23, 24, 25, 26, 27, 28, 29, 30, 31, 32, 33, 34, 35, 36, 37, 38, 39, 40, 41, 42, 43, 44, 45, 46, 47, 48, 49, 50, 51, 52, 53, 54, 55, 56, 57, 58, 59, 60, 61, 62, 63, 64, 65, 66, 67, 68, 69, 70, 71, 72, 73, 74, 75, 76, 77, 78, 79, 80, 81, 82, 83, 84, 85]
def o18_28 : List AOper := [⟨some 85, .load true [.int .i64, .int .i64, .slice] (.tmp 12), none⟩,
  ⟨none, .store 3 (.tmp 10) (.tmp 85), none⟩,
  ⟨some 11, .mv (.const (.bool true)), none⟩]
def c18_27 : ACode := .seq (.ops o18_28) (.ret)
def c18_0 : ACode := .seq (.ops o18_1) (.seq (.seq (.ops o18_4) (.cond (.tmp 56) (.seq (.ops o18_7) (.ret)) (.skip))) (.seq (.ops o18_11) (.seq (.seq (.ops o18_14) (.block 0 (.clear [0, 6, 7, 8, 9, 11, 14, 15, 16, 17, 18, 19, 20, 21, 22, 23, 24, 25, 26, 27, 28, 29, 30, 31, 32, 33, 34, 35, 36, 37, 38, 39, 40, 41, 42, 43, 44, 45, 46, 47, 48, 49, 50, 51, 52, 53, 54, 55, 56, 57, 58, 59, 60, 61, 62, 63, 64, 65, 66, 67, 68, 69, 70, 71, 72, 73, 74, 75, 76, 77, 78, 79, 80, 81, 82, 83, 84, 85] (.loop b18_16)))) (.clear [0, 1, 2, 3, 4, 5, 6, 7, 8, 9, 11, 13, 14, 15, 16, 17, 18, 19, 20, 21, 22, 23, 24, 25, 26, 27, 28, 29, 30, 31, 32, 33, 34, 35, 36, 37, 38, 39, 40, 41, 42, 43, 44, 45, 46, 47, 48, 49, 50, 51, 52, 53, 54, 55, 56, 57, 58, 59, 60, 61, 62, 63, 64, 65, 66, 67, 68, 69, 70, 71, 72, 73, 74, 75, 76, 77, 78, 79, 80, 81, 82, 83, 84, 85] c18_27))))
def a18 : AFun := ⟨86, [.cell true [.int .i64, .int .i64, .slice] 10, .tmp 11], c18_0⟩
theorem ok18 : OkFun Try.prog 18 a18 := ⟨Try.f18, Try.f18.body.getD .skip, Try.func18, by kernel_rfl, by kernel_rfl, by kernel_rfl, by kernel_rfl, by kernel_rfl⟩
/-! #### skylightref51.Half -/
def o19_1 : List AOper := [⟨some 1, .box (.tmp 0), none⟩,
  ⟨some 2, .alloc [.int .i64 0, .int .i64 0, .slice none 0 0], none⟩]
def o19_4 : List AOper := [⟨some 12, .load true [.int .i64, .int .i64, .slice] (.tmp 1), none⟩,
  ⟨some 13, .call false (.func 6) [.tmp 12] [(false, [.bool])] true, none⟩,
  ⟨some 14, .un .not (.tmp 13), none⟩]
def o19_7 : List AOper := [⟨some 15, .build [.int .i64 0, .int .i64 0, .slice none 0 0] [], none⟩,
  ⟨none, .store 3 (.tmp 2) (.tmp 15), none⟩]
def o19_11 : List (AOper × Option Nat) := [(⟨some 16, .fieldAddr 0 (.tmp 1), none⟩, none),
  (⟨some 17, .load false [.int .i64] (.tmp 16), none⟩, none),
  (⟨some 18, .call true (.func 28) [.tmp 17] [(false, [.int .i64])] true, none⟩, none),
  (⟨some 19, .fieldAddr 1 (.tmp 1), none⟩, none),
  (⟨some 20, .load false [.int .i64] (.tmp 19), none⟩, none),
  (⟨some 21, .call true (.func 28) [.tmp 20] [(false, [.int .i64])] true, none⟩, none),
  (⟨some 22, .build [.int .i64 0, .int .i64 0, .slice none 0 0] [(0, 1, .tmp 18), (1, 1, .tmp 21)], none⟩, none),
  (⟨some 3, .alloc [.int .i64 0, .int .i64 0, .slice none 0 0], none⟩, none),
  (⟨none, .store 3 (.tmp 3) (.tmp 22), none⟩, none)]
def o19_14 : List AOper := [⟨some 4, .mv (.const (.int .i64 0)), none⟩]
def o19_19 : List AOper := [⟨some 23, .mv (.tmp 4), none⟩,
  ⟨some 24, .fieldAddr 1 (.tmp 3), none⟩,
  ⟨some 25, .load false [.int .i64] (.tmp 24), none⟩,
  ⟨some 26, .bin .lss (.tmp 23) (.tmp 25), none⟩]
def o19_26 : List AOper := [⟨some 5, .mv (.const (.int .i64 0)), none⟩]
def o19_31 : List AOper := [⟨some 29, .mv (.tmp 5), none⟩,
  ⟨some 30, .fieldAddr 0 (.tmp 3), none⟩,
  ⟨some 31, .load false [.int .i64] (.tmp 30), none⟩,
  ⟨some 32, .bin .lss (.tmp 29) (.tmp 31), none⟩]
def o19_38 : List (AOper × Option Nat) := [(⟨some 35, .load true [.int .i64, .int .i64, .slice] (.tmp 1), none⟩, none),
  (⟨some 36, .mv (.tmp 5), none⟩, none),
  (⟨some 37, .bin .mul (.const (.int .i64 2)) (.tmp 36), none⟩, none),
  (⟨some 38, .mv (.tmp 4), none⟩, none),
  (⟨some 39, .bin .mul (.const (.int .i64 2)) (.tmp 38), none⟩, none),
  (⟨some 40, .call false (.func 29) [.tmp 35, .tmp 37, .tmp 39] [(true, [.int .i64, .int .i64, .int .i64])] true, none⟩, none),
  (⟨some 41, .load true [.int .i64, .int .i64, .slice] (.tmp 1), none⟩, none),
  (⟨some 42, .mv (.tmp 5), none⟩, none),
  (⟨some 43, .bin .mul (.const (.int .i64 2)) (.tmp 42), none⟩, none),
  (⟨some 44, .bin .add (.tmp 43) (.const (.int .i64 1)), none⟩, none),
  (⟨some 45, .mv (.tmp 4), none⟩, none),
  (⟨some 46, .bin .mul (.const (.int .i64 2)) (.tmp 45), none⟩, none),
  (⟨some 47, .call false (.func 29) [.tmp 41, .tmp 44, .tmp 46] [(true, [.int .i64, .int .i64, .int .i64])] true, none⟩, none),
  (⟨some 48, .load true [.int .i64, .int .i64, .slice] (.tmp 1), none⟩, none),
  (⟨some 49, .mv (.tmp 5), none⟩, none),
  (⟨some 50, .bin .mul (.const (.int .i64 2)) (.tmp 49), none⟩, none),
  (⟨some 51, .mv (.tmp 4), none⟩, none),
  (⟨some 52, .bin .mul (.const (.int .i64 2)) (.tmp 51), none⟩, none),
  (⟨some 53, .bin .add (.tmp 52) (.const (.int .i64 1)), none⟩, none),
  (⟨some 54, .call false (.func 29) [.tmp 48, .tmp 50, .tmp 53] [(true, [.int .i64, .int .i64, .int .i64])] true, none⟩, none),
  (⟨some 55, .load true [.int .i64, .int .i64, .slice] (.tmp 1), none⟩, none),
  (⟨some 56, .mv (.tmp 5), none⟩, none),
  (⟨some 57, .bin .mul (.const (.int .i64 2)) (.tmp 56), none⟩, none),
  (⟨some 58, .bin .add (.tmp 57) (.const (.int .i64 1)), none⟩, none),
  (⟨some 59, .mv (.tmp 4), none⟩, none),
  (⟨some 60, .bin .mul (.const (.int .i64 2)) (.tmp 59), none⟩, none),
  (⟨some 61, .bin .add (.tmp 60) (.const (.int .i64 1)), none⟩, none),
  (⟨some 62, .call false (.func 29) [.tmp 55, .tmp 58, .tmp 61] [(true, [.int .i64, .int .i64, .int .i64])] true, none⟩, none),
  (⟨some 6, .nilCheck (.tmp 6), none⟩, none),
  (⟨some 7, .nilCheck (.tmp 7), none⟩, none),
  (⟨some 8, .nilCheck (.tmp 8), none⟩, none),
  (⟨some 9, .nilCheck (.tmp 9), none⟩, none),
  (⟨none, .store 3 (.tmp 6) (.tmp 40), none⟩, none),
  (⟨none, .store 3 (.tmp 7) (.tmp 47), none⟩, none),
  (⟨none, .store 3 (.tmp 8) (.tmp 54), none⟩, none),
  (⟨none, .store 3 (.tmp 9) (.tmp 62), none⟩, none)]
def f19_38 : List AOper := [⟨some 6, .alloc [.int .i64 0, .int .i64 0, .int .i64 0], none⟩,
  ⟨some 7, .alloc [.int .i64 0, .int .i64 0, .int .i64 0], none⟩,
  ⟨some 8, .alloc [.int .i64 0, .int .i64 0, .int .i64 0], none⟩,
  ⟨some 9, .alloc [.int .i64 0, .int .i64 0, .int .i64 0], none⟩]
def o19_40 : List AOper := [⟨some 10, .alloc [.int .i64 0, .int .i64 0, .int .i64 0], none⟩]
def o19_43 : List AOper := [⟨some 11, .mv (.const (.int .i64 0)), none⟩]
def o19_48 : List AOper := [⟨some 63, .mv (.tmp 11), none⟩,
  ⟨some 64, .bin .lss (.tmp 63) (.const (.int .i64 3)), none⟩]
def o19_54 : List (AOper × Option Nat) := [(⟨some 67, .mv (.tmp 11), none⟩, none),
  (⟨some 68, .mv (.tmp 11), none⟩, none),
  (⟨some 69, .indexArr 3 1 (.tmp 6) (.tmp 68), none⟩, none),
  (⟨some 70, .load false [.int .i64] (.tmp 69), none⟩, none),
  (⟨some 71, .mv (.tmp 11), none⟩, none),
  (⟨some 72, .indexArr 3 1 (.tmp 7) (.tmp 71), none⟩, none),
  (⟨some 73, .load false [.int .i64] (.tmp 72), none⟩, none),
  (⟨some 74, .bin .add (.tmp 70) (.tmp 73), none⟩, none),
  (⟨some 75, .mv (.tmp 11), none⟩, none),
  (⟨some 76, .indexArr 3 1 (.tmp 8) (.tmp 75), none⟩, none),
  (⟨some 77, .load false [.int .i64] (.tmp 76), none⟩, none),
  (⟨some 78, .bin .add (.tmp 74) (.tmp 77), none⟩, none),
  (⟨some 79, .mv (.tmp 11), none⟩, none),
  (⟨some 80, .indexArr 3 1 (.tmp 9) (.tmp 79), none⟩, none),
  (⟨some 81, .load false [.int .i64] (.tmp 80), none⟩, none),
  (⟨some 82, .bin .add (.tmp 78) (.tmp 81), none⟩, none),
  (⟨some 83, .call true (.func 30) [.tmp 82, .const (.int .i64 4)] [(false, [.int .i64])] true, none⟩, none),
  (⟨some 84, .indexArr 3 1 (.tmp 10) (.tmp 67), none⟩, none),
  (⟨none, .store 1 (.tmp 84) (.tmp 83), none⟩, none)]
def o19_55 : List AOper := [⟨some 65, .mv (.tmp 11), none⟩,
  ⟨some 66, .bin .add (.tmp 65) (.const (.int .i64 1)), none⟩,
  ⟨some 11, .mv (.tmp 66), none⟩]
def c19_55 : ACode := .ops o19_55
def b19_45 : ACode := .post (.seq (.seq (.ops o19_48) (.cond (.tmp 64) (.skip) (.exit 4))) (.seq (.block 5 (.draw [] 0 o19_54 [])) (.clear [0, 12, 13, 14, 15, 16, 17, 18, 19, 20, 21, 22, 23, 24, 25, 26, 27, 28, 29, 30, 31, 32, 33, 34, 35, 36, 37, 38, 39, 40, 41, 42, 43, 44, 45, 46, 47, 48, 49, 50, 51, 52, 53, 54, 55, 56, 57, 58, 59, 60, 61, 62, 63, 64, 65, 66, 67, 68, 69, 70, 71, 72, 73, 74, 75, 76, 77, 78, 79, 80, 81, 82, 83, 84, 85, 86, 87, 88, 89, 90, 91] c19_55))) [0, 12, 13, 14, 15, 16, 17, 18, 19, 20, 21, 22, 23, 24, 25, 26, 27, 28, 29, 30, 31, 32, 33, 34, 35, 36, 37, 38, 39, 40, 41, 42, 43, 44, 45, 46, 47, 48, 49, 50, 51, 52, 53, 54, 55, 56, 57, 58, 59, 60, 61, 62, 63, 64, 65, 66, 67, 68, 69, 70, 71, 72, 73, 74, 75, 76, 77, 78, 79, 80, 81, 82, 83, 84, 85, 86, 87, 88, 89, 90, 91]
def o19_56 : List AOper := [⟨some 85, .fieldAddr 2 (.tmp 3), none⟩,
  ⟨some 86, .load false [.slice] (.tmp 85), none⟩,
  ⟨some 87, .load true [.int .i64, .int .i64, .int .i64] (.tmp 10), none⟩,
  ⟨some 88, .buildSlice 3 1 [.int .i64 0, .int .i64 0, .int .i64 0] [(0, 3, .tmp 87)], none⟩,
  ⟨some 89, .append 3 24 (.tmp 86) (.tmp 88), none⟩,
  ⟨some 90, .fieldAddr 2 (.tmp 3), none⟩,
  ⟨none, .store 1 (.tmp 90) (.tmp 89), none⟩]
def c19_56 : ACode := .ops o19_56
def c19_39 : ACode := .seq (.ops o19_40) (.seq (.seq (.ops o19_43) (.block 4 (.clear [0, 12, 13, 14, 15, 16, 17, 18, 19, 20, 21, 22, 23, 24, 25, 26, 27, 28, 29, 30, 31, 32, 33, 34, 35, 36, 37, 38, 39, 40, 41, 42, 43, 44, 45, 46, 47, 48, 49, 50, 51, 52, 53, 54, 55, 56, 57, 58, 59, 60, 61, 62, 63, 64, 65, 66, 67, 68, 69, 70, 71, 72, 73, 74, 75, 76, 77, 78, 79, 80, 81, 82, 83, 84, 85, 86, 87, 88, 89, 90, 91] (.loop b19_45)))) (.clear [0, 6, 7, 8, 9, 11, 12, 13, 14, 15, 16, 17, 18, 19, 20, 21, 22, 23, 24, 25, 26, 27, 28, 29, 30, 31, 32, 33, 34, 35, 36, 37, 38, 39, 40, 41, 42, 43, 44, 45, 46, 47, 48, 49, 50, 51, 52, 53, 54, 55, 56, 57, 58, 59, 60, 61, 62, 63, 64, 65, 66, 67, 68, 69, 70, 71, 72, 73, 74, 75, 76, 77, 78, 79, 80, 81, 82, 83, 84, 85, 86, 87, 88, 89, 90, 91] c19_56))
def o19_57 : List AOper := [⟨some 33, .mv (.tmp 5), none⟩,
  ⟨some 34, .bin .add (.tmp 33) (.const (.int .i64 1)), none⟩,
  ⟨some 5, .mv (.tmp 34), none⟩]
def c19_57 : ACode := .ops o19_57
def b19_28 : ACode := .post (.seq (.seq (.ops o19_31) (.cond (.tmp 32) (.skip) (.exit 2))) (.seq (.block 3 (.seq (.draw f19_38 0 o19_38 [(6, 5), (13, 5), (13, 12), (20, 5), (20, 12), (20, 19), (28, 5), (28, 12), (28, 19), (28, 27), (29, 5), (29, 12), (29, 19), (29, 27), (30, 5), (30, 12), (30, 19), (30, 27), (31, 5), (31, 12), (31, 19), (31, 27)]) (.clear [0, 10, 11, 12, 13, 14, 15, 16, 17, 18, 19, 20, 21, 22, 23, 24, 25, 26, 27, 28, 29, 30, 31, 32, 33, 34, 35, 36, 37, 38, 39, 40, 41, 42, 43, 44, 45, 46, 47, 48, 49, 50, 51, 52, 53, 54, 55, 56, 57, 58, 59, 60, 61, 62, 63, 64, 65, 66, 67, 68, 69, 70, 71, 72, 73, 74, 75, 76, 77, 78, 79, 80, 81, 82, 83, 84, 85, 86, 87, 88, 89, 90, 91] c19_39))) (.clear [0, 6, 7, 8, 9, 10, 11, 12, 13, 14, 15, 16, 17, 18, 19, 20, 21, 22, 23, 24, 25, 26, 27, 28, 29, 30, 31, 32, 33, 34, 35, 36, 37, 38, 39, 40, 41, 42, 43, 44, 45, 46, 47, 48, 49, 50, 51, 52, 53, 54, 55, 56, 57, 58, 59, 60, 61, 62, 63, 64, 65, 66, 67, 68, 69, 70, 71, 72, 73, 74, 75, 76, 77, 78, 79, 80, 81, 82, 83, 84, 85, 86, 87, 88, 89, 90, 91] c19_57))) [0, 6, 7, 8, 9, 10, 11, 12, 13, 14, 15, 16, 17, 18, 19, 20, 21, 22, 23, 24, 25, 26, 27, 28, 29, 30, 31, 32, 33, 34, 35, 36, 37, 38, 39, 40, 41, 42, 43, 44, 45, 46, 47, 48, 49, 50, 51, 52, 53, 54, 55, 56, 57, 58, 59, 60, 61, 62, 63, 64, 65, 66, 67, 68, 69, 70, 71, 72, 73, 74, 75, 76, 77, 78, 79, 80, 81, 82, 83, 84, 85, 86, 87, 88, 89, 90, 91]
def o19_58 : List AOper := [⟨some 27, .mv (.tmp 4), none⟩,
  ⟨some 28, .bin .add (.tmp 27) (.const (.int .i64 1)), none⟩,
  ⟨some 4, .mv (.tmp 28), none⟩]
def c19_58 : ACode := .ops o19_58
def b19_16 : ACode := .post (.seq (.seq (.ops o19_19) (.cond (.tmp 26) (.skip) (.exit 0))) (.seq (.block 1 (.seq (.ops o19_26) (.block 2 (.clear [0, 6, 7, 8, 9, 10, 11, 12, 13, 14, 15, 16, 17, 18, 19, 20, 21, 22, 23, 24, 25, 26, 27, 28, 29, 30, 31, 32, 33, 34, 35, 36, 37, 38, 39, 40, 41, 42, 43, 44, 45, 46, 47, 48, 49, 50, 51, 52, 53, 54, 55, 56, 57, 58, 59, 60, 61, 62, 63, 64, 65, 66, 67, 68, 69, 70, 71, 72, 73, 74, 75, 76, 77, 78, 79, 80, 81, 82, 83, 84, 85, 86, 87, 88, 89, 90, 91] (.loop b19_28))))) (.clear [0, 5, 6, 7, 8, 9, 10, 11, 12, 13, 14, 15, 16, 17, 18, 19, 20, 21, 22, 23, 24, 25, 26, 27, 28, 29, 30, 31, 32, 33, 34, 35, 36, 37, 38, 39, 40, 41, 42, 43, 44, 45, 46, 47, 48, 49, 50, 51, 52, 53, 54, 55, 56, 57, 58, 59, 60, 61, 62, 63, 64, 65, 66, 67, 68, 69, 70, 71, 72, 73, 74, 75, 76, 77, 78, 79, 80, 81, 82, 83, 84, 85, 86, 87, 88, 89, 90, 91] c19_58))) [0, 5, 6, 7, 8, 9, 10, 11, 12, 13, 14, 15, 16, 17, 18, 19, 20, 21, 22, 23, 24, 25, 26, 27, 28, 29, 30, 31, 32, 33, 34, 35, 36, 37, 38, 39, 40, 41, 42, 43, 44, 45, 46, 47, 48, 49, 50, 51, 52, 53, 54, 55, 56, 57, 58, 59, 60, 61, 62, 63, 64, 65, 66, 67, 68, 69, 70, 71, 72, 73, 74, 75, 76, 77, 78, 79, 80, 81, 82, 83, 84, 85, 86, 87, 88, 89, 90, 91]
def o19_60 : List AOper := [⟨some 91, .load true [.int .i64, .int .i64, .slice] (.tmp 3), none⟩,
  ⟨none, .store 3 (.tmp 2) (.tmp 91), none⟩]
def c19_59 : ACode := .seq (.ops o19_60) (.ret)
def c19_0 : ACode := .seq (.ops o19_1) (.seq (.seq (.ops o19_4) (.cond (.tmp 14) (.seq (.ops o19_7) (.ret)) (.skip))) (.seq (.draw [] 0 o19_11 [(1, 7), (4, 7)]) (.seq (.seq (.ops o19_14) (.block 0 (.clear [0, 5, 6, 7, 8, 9, 10, 11, 12, 13, 14, 15, 16, 17, 18, 19, 20, 21, 22, 23, 24, 25, 26, 27, 28, 29, 30, 31, 32, 33, 34, 35, 36, 37, 38, 39, 40, 41, 42, 43, 44, 45, 46, 47, 48, 49, 50, 51, 52, 53, 54, 55, 56, 57, 58, 59, 60, 61, 62, 63, 64, 65, 66, 67, 68, 69, 70, 71, 72, 73, 74, 75, 76, 77, 78, 79, 80, 81, 82, 83, 84, 85, 86, 87, 88, 89, 90, 91] (.loop b19_16)))) (.clear [0, 1, 4, 5, 6, 7, 8, 9, 10, 11, 12, 13, 14, 15, 16, 17, 18, 19, 20, 21, 22, 23, 24, 25, 26, 27, 28, 29, 30, 31, 32, 33, 34, 35, 36, 37, 38, 39, 40, 41, 42, 43, 44, 45, 46, 47, 48, 49, 50, 51, 52, 53, 54, 55, 56, 57, 58, 59, 60, 61, 62, 63, 64, 65, 66, 67, 68, 69, 70, 71, 72, 73, 74, 75, 76, 77, 78, 79, 80, 81, 82, 83, 84, 85, 86, 87, 88, 89, 90, 91] c19_59))))
def a19 : AFun := ⟨92, [.cell true [.int .i64, .int .i64, .slice] 2], c19_0⟩
theorem ok19 : OkFun Try.prog 19 a19 := ⟨Try.f19, Try.f19.body.getD .skip, Try.func19, by kernel_rfl, by kernel_rfl, by kernel_rfl, by kernel_rfl, by kernel_rfl⟩
/-! #### skylightref51.Levels -/
def o20_1 : List AOper := [⟨some 4, .mv (.const (.int .i64 0)), none⟩]
def o20_4 : List AOper := [⟨some 5, .mv (.tmp 0), none⟩,
  ⟨some 6, .bin .lss (.tmp 5) (.const (.int .i64 1)), none⟩,
  ⟨some 7, .mv (.tmp 6), none⟩,
  ⟨some 8, .mv (.tmp 1), some (7, false)⟩,
  ⟨some 9, .bin .lss (.tmp 8) (.const (.int .i64 1)), some (7, false)⟩,
  ⟨some 10, .pick (.tmp 7) (.const (.bool true)) (.tmp 9), none⟩,
  ⟨some 11, .mv (.tmp 10), none⟩,
  ⟨some 12, .mv (.tmp 0), some (11, false)⟩,
  ⟨some 13, .bin .gtr (.tmp 12) (.const (.int .i64 256)), some (11, false)⟩,
  ⟨some 14, .pick (.tmp 11) (.const (.bool true)) (.tmp 13), none⟩,
  ⟨some 15, .mv (.tmp 14), none⟩,
  ⟨some 16, .mv (.tmp 1), some (15, false)⟩,
  ⟨some 17, .bin .gtr (.tmp 16) (.const (.int .i64 256)), some (15, false)⟩,
  ⟨some 18, .pick (.tmp 15) (.const (.bool true)) (.tmp 17), none⟩]
def o20_7 : List AOper := [⟨some 4, .mv (.const (.int .i64 0)), none⟩]
def o20_12 : List AOper := [⟨some 19, .mv (.tmp 0), none⟩,
  ⟨some 20, .mv (.tmp 1), none⟩,
  ⟨some 21, .bin .mul (.tmp 19) (.tmp 20), none⟩,
  ⟨some 22, .bin .eql (.tmp 21) (.const (.int .i64 1)), none⟩]
def o20_15 : List AOper := [⟨some 4, .mv (.const (.int .i64 1)), none⟩]
def o20_19 : List AOper := [⟨some 23, .mv (.tmp 0), none⟩,
  ⟨some 24, .call true (.func 28) [.tmp 23] [(false, [.int .i64])] true, none⟩,
  ⟨some 25, .mv (.tmp 1), none⟩,
  ⟨some 26, .call true (.func 28) [.tmp 25] [(false, [.int .i64])] true, none⟩,
  ⟨some 27, .call true (.func 20) [.tmp 24, .tmp 26] [(false, [.int .i64])] true, none⟩,
  ⟨some 28, .bin .add (.const (.int .i64 1)) (.tmp 27), none⟩,
  ⟨some 4, .mv (.tmp 28), none⟩]
def c20_0 : ACode := .seq (.ops o20_1) (.seq (.seq (.ops o20_4) (.cond (.tmp 18) (.seq (.ops o20_7) (.ret)) (.skip))) (.seq (.seq (.ops o20_12) (.cond (.tmp 22) (.seq (.ops o20_15) (.ret)) (.skip))) (.seq (.ops o20_19) (.ret))))
def a20 : AFun := ⟨29, [.tmp 4], c20_0⟩
theorem ok20 : OkFun Try.prog 20 a20 := ⟨Try.f20, Try.f20.body.getD .skip, Try.func20, by kernel_rfl, by kernel_rfl, by kernel_rfl, by kernel_rfl, by kernel_rfl⟩
/-! #### skylightref41.sides -/
def o21_1 : List AOper := [⟨some 6, .mv (.const (.bool false)), none⟩]
def o21_3 : List AOper := [⟨some 7, .mv (.tmp 0), none⟩,
  ⟨some 8, .bin .geq (.tmp 7) (.const (.int .i64 1)), none⟩,
  ⟨some 9, .mv (.tmp 8), none⟩,
  ⟨some 10, .mv (.tmp 0), some (9, true)⟩,
  ⟨some 11, .bin .leq (.tmp 10) (.const (.int .i64 256)), some (9, true)⟩,
  ⟨some 12, .pick (.tmp 9) (.tmp 11) (.const (.bool false)), none⟩,
  ⟨some 13, .mv (.tmp 12), none⟩,
  ⟨some 14, .mv (.tmp 1), some (13, true)⟩,
  ⟨some 15, .bin .geq (.tmp 14) (.const (.int .i64 1)), some (13, true)⟩,
  ⟨some 16, .pick (.tmp 13) (.tmp 15) (.const (.bool false)), none⟩,
  ⟨some 17, .mv (.tmp 16), none⟩,
  ⟨some 18, .mv (.tmp 1), some (17, true)⟩,
  ⟨some 19, .bin .leq (.tmp 18) (.const (.int .i64 256)), some (17, true)⟩,
  ⟨some 20, .pick (.tmp 17) (.tmp 19) (.const (.bool false)), none⟩,
  ⟨some 21, .mv (.tmp 20), none⟩,
  ⟨some 22, .mv (.tmp 2), some (21, true)⟩,
  ⟨some 23, .mv (.tmp 0), some (21, true)⟩,
  ⟨some 24, .mv (.tmp 1), some (21, true)⟩,
  ⟨some 25, .bin .mul (.tmp 23) (.tmp 24), some (21, true)⟩,
  ⟨some 26, .bin .eql (.tmp 22) (.tmp 25), some (21, true)⟩,
  ⟨some 27, .pick (.tmp 21) (.tmp 26) (.const (.bool false)), none⟩,
  ⟨some 6, .mv (.tmp 27), none⟩]
def c21_0 : ACode := .seq (.ops o21_1) (.seq (.ops o21_3) (.ret))
def a21 : AFun := ⟨28, [.tmp 6], c21_0⟩
theorem ok21 : OkFun Try.prog 21 a21 := ⟨Try.f21, Try.f21.body.getD .skip, Try.func21, by kernel_rfl, by kernel_rfl, by kernel_rfl, by kernel_rfl, by kernel_rfl⟩
/-! #### picture.Right -/
def o22_1 : List AOper := [⟨some 1, .box (.tmp 0), none⟩,
  ⟨some 2, .mv (.const (.bool false)), none⟩]
def o22_4 : List AOper := [⟨some 5, .fieldAddr 2 (.tmp 1), none⟩,
  ⟨some 6, .load false [.slice] (.tmp 5), none⟩,
  ⟨some 7, .len (.tmp 6), none⟩,
  ⟨some 8, .mv (.const (.int .i64 0)), none⟩]
def o22_8 : List AOper := [⟨some 9, .bin .lss (.tmp 8) (.tmp 7), none⟩]
def o22_16 : List AOper := [⟨some 10, .indexAddr 3 (.tmp 6) (.tmp 8), none⟩,
  ⟨some 11, .load true [.int .i64, .int .i64, .int .i64] (.tmp 10), none⟩,
  ⟨some 4, .alloc [.int .i64 0, .int .i64 0, .int .i64 0], none⟩,
  ⟨none, .store 3 (.tmp 4) (.tmp 11), none⟩]
def o22_18 : List AOper := [⟨some 12, .indexArr 3 1 (.tmp 4) (.const (.int .i64 0)), none⟩,
  ⟨some 13, .load false [.int .i64] (.tmp 12), none⟩,
  ⟨some 14, .call true (.func 31) [.tmp 13] [(false, [.bool])] true, none⟩,
  ⟨some 15, .un .not (.tmp 14), none⟩,
  ⟨some 16, .mv (.tmp 15), none⟩,
  ⟨some 17, .indexArr 3 1 (.tmp 4) (.const (.int .i64 1)), some (16, false)⟩,
  ⟨some 18, .load false [.int .i64] (.tmp 17), some (16, false)⟩,
  ⟨some 19, .call true (.func 31) [.tmp 18] [(false, [.bool])] true, some (16, false)⟩,
  ⟨some 20, .un .not (.tmp 19), some (16, false)⟩,
  ⟨some 21, .pick (.tmp 16) (.const (.bool true)) (.tmp 20), none⟩,
  ⟨some 22, .mv (.tmp 21), none⟩,
  ⟨some 23, .indexArr 3 1 (.tmp 4) (.const (.int .i64 2)), some (22, false)⟩,
  ⟨some 24, .load false [.int .i64] (.tmp 23), some (22, false)⟩,
  ⟨some 25, .call true (.func 31) [.tmp 24] [(false, [.bool])] true, some (22, false)⟩,
  ⟨some 26, .un .not (.tmp 25), some (22, false)⟩,
  ⟨some 27, .pick (.tmp 22) (.const (.bool true)) (.tmp 26), none⟩]
def o22_21 : List AOper := [⟨some 2, .mv (.const (.bool false)), none⟩]
def o22_24 : List AOper := [⟨some 28, .bin .add (.tmp 8) (.const (.int .i64 1)), none⟩,
  ⟨some 8, .mv (.tmp 28), none⟩]
def c22_24 : ACode := .ops o22_24
def b22_6 : ACode := .post (.seq (.ops o22_8) (.seq (.cond (.tmp 9) (.skip) (.exit 0)) (.seq (.block 1 (.seq (.ops o22_16) (.seq (.ops o22_18) (.cond (.tmp 27) (.seq (.ops o22_21) (.ret)) (.skip))))) (.clear [0, 2, 3, 4, 5, 9, 10, 11, 12, 13, 14, 15, 16, 17, 18, 19, 20, 21, 22, 23, 24, 25, 26, 27, 28, 29, 30, 31, 32, 33, 34, 35, 36] c22_24)))) [0, 2, 3, 4, 5, 9, 10, 11, 12, 13, 14, 15, 16, 17, 18, 19, 20, 21, 22, 23, 24, 25, 26, 27, 28, 29, 30, 31, 32, 33, 34, 35, 36]
def o22_26 : List AOper := [⟨some 29, .fieldAddr 0 (.tmp 1), none⟩,
  ⟨some 30, .load false [.int .i64] (.tmp 29), none⟩,
  ⟨some 31, .fieldAddr 1 (.tmp 1), none⟩,
  ⟨some 32, .load false [.int .i64] (.tmp 31), none⟩,
  ⟨some 33, .fieldAddr 2 (.tmp 1), none⟩,
  ⟨some 34, .load false [.slice] (.tmp 33), none⟩,
  ⟨some 35, .len (.tmp 34), none⟩,
  ⟨some 36, .call true (.func 32) [.tmp 30, .tmp 32, .tmp 35] [(false, [.bool])] true, none⟩,
  ⟨some 2, .mv (.tmp 36), none⟩]
def c22_25 : ACode := .seq (.ops o22_26) (.ret)
def c22_0 : ACode := .seq (.ops o22_1) (.seq (.seq (.ops o22_4) (.block 0 (.clear [0, 2, 3, 4, 5, 9, 10, 11, 12, 13, 14, 15, 16, 17, 18, 19, 20, 21, 22, 23, 24, 25, 26, 27, 28, 29, 30, 31, 32, 33, 34, 35, 36] (.loop b22_6)))) (.clear [0, 2, 3, 4, 5, 6, 7, 8, 9, 10, 11, 12, 13, 14, 15, 16, 17, 18, 19, 20, 21, 22, 23, 24, 25, 26, 27, 28, 29, 30, 31, 32, 33, 34, 35, 36] c22_25))
def a22 : AFun := ⟨37, [.tmp 2], c22_0⟩
theorem ok22 : OkFun Try.prog 22 a22 := ⟨Try.f22, Try.f22.body.getD .skip, Try.func22, by kernel_rfl, by kernel_rfl, by kernel_rfl, by kernel_rfl, by kernel_rfl⟩
/-! #### mip.halved -/
def o23_1 : List AOper := [⟨some 1, .box (.tmp 0), none⟩,
  ⟨some 2, .alloc [.int .i64 0, .int .i64 0, .slice none 0 0], none⟩]
def o23_3 : List (AOper × Option Nat) := [(⟨some 14, .fieldAddr 0 (.tmp 1), none⟩, none),
  (⟨some 15, .load false [.int .i64] (.tmp 14), none⟩, none),
  (⟨some 16, .call true (.func 24) [.tmp 15] [(false, [.int .i64])] true, none⟩, none),
  (⟨some 17, .fieldAddr 1 (.tmp 1), none⟩, none),
  (⟨some 18, .load false [.int .i64] (.tmp 17), none⟩, none),
  (⟨some 19, .call true (.func 24) [.tmp 18] [(false, [.int .i64])] true, none⟩, none),
  (⟨some 20, .build [.int .i64 0, .int .i64 0, .slice none 0 0] [(0, 1, .tmp 16), (1, 1, .tmp 19)], none⟩, none),
  (⟨some 3, .alloc [.int .i64 0, .int .i64 0, .slice none 0 0], none⟩, none),
  (⟨none, .store 3 (.tmp 3) (.tmp 20), none⟩, none)]
def o23_5 : List AOper := [⟨some 21, .fieldAddr 0 (.tmp 3), none⟩,
  ⟨some 22, .load false [.int .i64] (.tmp 21), none⟩,
  ⟨some 23, .fieldAddr 1 (.tmp 3), none⟩,
  ⟨some 24, .load false [.int .i64] (.tmp 23), none⟩,
  ⟨some 25, .bin .mul (.tmp 22) (.tmp 24), none⟩,
  ⟨some 26, .makeSlice 3 24 [.int .i64 0, .int .i64 0, .int .i64 0] (.tmp 25) (.tmp 25), none⟩,
  ⟨some 27, .fieldAddr 2 (.tmp 3), none⟩,
  ⟨none, .store 1 (.tmp 27) (.tmp 26), none⟩]
def o23_8 : List AOper := [⟨some 28, .fieldAddr 2 (.tmp 3), none⟩,
  ⟨some 29, .load false [.slice] (.tmp 28), none⟩,
  ⟨some 30, .len (.tmp 29), none⟩,
  ⟨some 31, .mv (.const (.int .i64 0)), none⟩]
def o23_12 : List AOper := [⟨some 32, .bin .lss (.tmp 31) (.tmp 30), none⟩]
def o23_20 : List AOper := [⟨some 33, .mv (.tmp 31), none⟩,
  ⟨some 4, .mv (.tmp 33), none⟩]
def o23_22 : List (AOper × Option Nat) := [(⟨some 34, .mv (.tmp 4), none⟩, none),
  (⟨some 35, .fieldAddr 0 (.tmp 3), none⟩, none),
  (⟨some 36, .load false [.int .i64] (.tmp 35), none⟩, none),
  (⟨some 37, .bin .rem (.tmp 34) (.tmp 36), none⟩, none),
  (⟨some 38, .bin .mul (.const (.int .i64 2)) (.tmp 37), none⟩, none),
  (⟨some 39, .mv (.tmp 4), none⟩, none),
  (⟨some 40, .fieldAddr 0 (.tmp 3), none⟩, none),
  (⟨some 41, .load false [.int .i64] (.tmp 40), none⟩, none),
  (⟨some 42, .bin .quo (.tmp 39) (.tmp 41), none⟩, none),
  (⟨some 43, .bin .mul (.const (.int .i64 2)) (.tmp 42), none⟩, none),
  (⟨some 5, .mv (.tmp 38), none⟩, none),
  (⟨some 6, .mv (.tmp 43), none⟩, none)]
def o23_24 : List (AOper × Option Nat) := [(⟨some 44, .mv (.tmp 5), none⟩, none),
  (⟨some 45, .bin .add (.tmp 44) (.const (.int .i64 1)), none⟩, none),
  (⟨some 46, .fieldAddr 0 (.tmp 1), none⟩, none),
  (⟨some 47, .load false [.int .i64] (.tmp 46), none⟩, none),
  (⟨some 48, .bin .sub (.tmp 47) (.const (.int .i64 1)), none⟩, none),
  (⟨some 49, .minmax false [.tmp 45, .tmp 48], none⟩, none),
  (⟨some 50, .mv (.tmp 6), none⟩, none),
  (⟨some 51, .bin .add (.tmp 50) (.const (.int .i64 1)), none⟩, none),
  (⟨some 52, .fieldAddr 1 (.tmp 1), none⟩, none),
  (⟨some 53, .load false [.int .i64] (.tmp 52), none⟩, none),
  (⟨some 54, .bin .sub (.tmp 53) (.const (.int .i64 1)), none⟩, none),
  (⟨some 55, .minmax false [.tmp 51, .tmp 54], none⟩, none),
  (⟨some 7, .mv (.tmp 49), none⟩, none),
  (⟨some 8, .mv (.tmp 55), none⟩, none)]
def o23_27 : List AOper := [⟨some 56, .mv (.tmp 6), none⟩,
  ⟨some 57, .fieldAddr 0 (.tmp 1), none⟩,
  ⟨some 58, .load false [.int .i64] (.tmp 57), none⟩,
  ⟨some 59, .bin .mul (.tmp 56) (.tmp 58), none⟩,
  ⟨some 60, .mv (.tmp 5), none⟩,
  ⟨some 61, .bin .add (.tmp 59) (.tmp 60), none⟩,
  ⟨some 62, .mv (.tmp 6), none⟩,
  ⟨some 63, .fieldAddr 0 (.tmp 1), none⟩,
  ⟨some 64, .load false [.int .i64] (.tmp 63), none⟩,
  ⟨some 65, .bin .mul (.tmp 62) (.tmp 64), none⟩,
  ⟨some 66, .mv (.tmp 7), none⟩,
  ⟨some 67, .bin .add (.tmp 65) (.tmp 66), none⟩,
  ⟨some 68, .mv (.tmp 8), none⟩,
  ⟨some 69, .fieldAddr 0 (.tmp 1), none⟩,
  ⟨some 70, .load false [.int .i64] (.tmp 69), none⟩,
  ⟨some 71, .bin .mul (.tmp 68) (.tmp 70), none⟩,
  ⟨some 72, .mv (.tmp 5), none⟩,
  ⟨some 73, .bin .add (.tmp 71) (.tmp 72), none⟩,
  ⟨some 74, .mv (.tmp 8), none⟩,
  ⟨some 75, .fieldAddr 0 (.tmp 1), none⟩,
  ⟨some 76, .load false [.int .i64] (.tmp 75), none⟩,
  ⟨some 77, .bin .mul (.tmp 74) (.tmp 76), none⟩,
  ⟨some 78, .mv (.tmp 7), none⟩,
  ⟨some 79, .bin .add (.tmp 77) (.tmp 78), none⟩,
  ⟨some 80, .build [.int .i64 0, .int .i64 0, .int .i64 0, .int .i64 0] [(0, 1, .tmp 61), (1, 1, .tmp 67), (2, 1, .tmp 73), (3, 1, .tmp 79)], none⟩,
  ⟨some 81, .mv (.const (.int .i64 0)), none⟩]
def o23_31 : List AOper := [⟨some 82, .bin .lss (.tmp 81) (.const (.int .i64 4)), none⟩]
def o23_39 : List AOper := [⟨some 83, .index false 4 1 (.tmp 80) (.tmp 81), none⟩,
  ⟨some 10, .mv (.tmp 83), none⟩]
def o23_41 : List AOper := [⟨some 84, .fieldAddr 2 (.tmp 1), none⟩,
  ⟨some 85, .load false [.slice] (.tmp 84), none⟩,
  ⟨some 86, .mv (.tmp 10), none⟩,
  ⟨some 87, .indexAddr 3 (.tmp 85) (.tmp 86), none⟩,
  ⟨some 88, .load true [.int .i64, .int .i64, .int .i64] (.tmp 87), none⟩,
  ⟨some 89, .mv (.const (.int .i64 0)), none⟩]
def o23_45 : List AOper := [⟨some 90, .bin .lss (.tmp 89) (.const (.int .i64 3)), none⟩]
def o23_53 : List AOper := [⟨some 91, .mv (.tmp 89), none⟩,
  ⟨some 92, .index false 3 1 (.tmp 88) (.tmp 89), none⟩,
  ⟨some 11, .mv (.tmp 91), none⟩,
  ⟨some 12, .mv (.tmp 92), none⟩]
def o23_54 : List (AOper × Option Nat) := [(⟨some 93, .fieldAddr 2 (.tmp 3), none⟩, none),
  (⟨some 94, .load false [.slice] (.tmp 93), none⟩, none),
  (⟨some 95, .mv (.tmp 4), none⟩, none),
  (⟨some 96, .mv (.tmp 11), none⟩, none),
  (⟨some 97, .indexAddr 3 (.tmp 94) (.tmp 95), none⟩, none),
  (⟨some 98, .indexArr 3 1 (.tmp 97) (.tmp 96), none⟩, none),
  (⟨some 99, .load false [.int .i64] (.tmp 98), none⟩, none),
  (⟨some 100, .mv (.tmp 12), none⟩, none),
  (⟨some 101, .bin .add (.tmp 99) (.tmp 100), none⟩, none),
  (⟨some 102, .indexAddr 3 (.tmp 94) (.tmp 95), none⟩, none),
  (⟨some 103, .indexArr 3 1 (.tmp 102) (.tmp 96), none⟩, none),
  (⟨none, .store 1 (.tmp 103) (.tmp 101), none⟩, none)]
def o23_55 : List AOper := [⟨some 104, .bin .add (.tmp 89) (.const (.int .i64 1)), none⟩,
  ⟨some 89, .mv (.tmp 104), none⟩]
def c23_55 : ACode := .ops o23_55
def b23_43 : ACode := .post (.seq (.ops o23_45) (.seq (.cond (.tmp 90) (.skip) (.exit 4)) (.seq (.block 5 (.seq (.ops o23_53) (.draw [] 0 o23_54 []))) (.clear [0, 5, 6, 7, 8, 9, 10, 11, 12, 13, 14, 15, 16, 17, 18, 19, 20, 21, 22, 23, 24, 25, 26, 27, 28, 29, 32, 33, 34, 35, 36, 37, 38, 39, 40, 41, 42, 43, 44, 45, 46, 47, 48, 49, 50, 51, 52, 53, 54, 55, 56, 57, 58, 59, 60, 61, 62, 63, 64, 65, 66, 67, 68, 69, 70, 71, 72, 73, 74, 75, 76, 77, 78, 79, 82, 83, 84, 85, 86, 87, 90, 91, 92, 93, 94, 95, 96, 97, 98, 99, 100, 101, 102, 103, 104, 105, 106, 107, 108, 109, 110, 111, 112, 113, 114, 115, 116, 117, 118, 119, 120, 121] c23_55)))) [0, 5, 6, 7, 8, 9, 10, 11, 12, 13, 14, 15, 16, 17, 18, 19, 20, 21, 22, 23, 24, 25, 26, 27, 28, 29, 32, 33, 34, 35, 36, 37, 38, 39, 40, 41, 42, 43, 44, 45, 46, 47, 48, 49, 50, 51, 52, 53, 54, 55, 56, 57, 58, 59, 60, 61, 62, 63, 64, 65, 66, 67, 68, 69, 70, 71, 72, 73, 74, 75, 76, 77, 78, 79, 82, 83, 84, 85, 86, 87, 90, 91, 92, 93, 94, 95, 96, 97, 98, 99, 100, 101, 102, 103, 104, 105, 106, 107, 108, 109, 110, 111, 112, 113, 114, 115, 116, 117, 118, 119, 120, 121]
def o23_56 : List AOper := [⟨some 105, .bin .add (.tmp 81) (.const (.int .i64 1)), none⟩,
  ⟨some 81, .mv (.tmp 105), none⟩]
def c23_56 : ACode := .ops o23_56
def b23_29 : ACode := .post (.seq (.ops o23_31) (.seq (.cond (.tmp 82) (.skip) (.exit 2)) (.seq (.block 3 (.seq (.ops o23_39) (.seq (.ops o23_41) (.block 4 (.clear [0, 5, 6, 7, 8, 9, 10, 11, 12, 13, 14, 15, 16, 17, 18, 19, 20, 21, 22, 23, 24, 25, 26, 27, 28, 29, 32, 33, 34, 35, 36, 37, 38, 39, 40, 41, 42, 43, 44, 45, 46, 47, 48, 49, 50, 51, 52, 53, 54, 55, 56, 57, 58, 59, 60, 61, 62, 63, 64, 65, 66, 67, 68, 69, 70, 71, 72, 73, 74, 75, 76, 77, 78, 79, 82, 83, 84, 85, 86, 87, 90, 91, 92, 93, 94, 95, 96, 97, 98, 99, 100, 101, 102, 103, 104, 105, 106, 107, 108, 109, 110, 111, 112, 113, 114, 115, 116, 117, 118, 119, 120, 121] (.loop b23_43)))))) (.clear [0, 5, 6, 7, 8, 9, 10, 11, 12, 13, 14, 15, 16, 17, 18, 19, 20, 21, 22, 23, 24, 25, 26, 27, 28, 29, 32, 33, 34, 35, 36, 37, 38, 39, 40, 41, 42, 43, 44, 45, 46, 47, 48, 49, 50, 51, 52, 53, 54, 55, 56, 57, 58, 59, 60, 61, 62, 63, 64, 65, 66, 67, 68, 69, 70, 71, 72, 73, 74, 75, 76, 77, 78, 79, 82, 83, 84, 85, 86, 87, 88, 89, 90, 91, 92, 93, 94, 95, 96, 97, 98, 99, 100, 101, 102, 103, 104, 105, 106, 107, 108, 109, 110, 111, 112, 113, 114, 115, 116, 117, 118, 119, 120, 121] c23_56)))) [0, 5, 6, 7, 8, 9, 10, 11, 12, 13, 14, 15, 16, 17, 18, 19, 20, 21, 22, 23, 24, 25, 26, 27, 28, 29, 32, 33, 34, 35, 36, 37, 38, 39, 40, 41, 42, 43, 44, 45, 46, 47, 48, 49, 50, 51, 52, 53, 54, 55, 56, 57, 58, 59, 60, 61, 62, 63, 64, 65, 66, 67, 68, 69, 70, 71, 72, 73, 74, 75, 76, 77, 78, 79, 82, 83, 84, 85, 86, 87, 88, 89, 90, 91, 92, 93, 94, 95, 96, 97, 98, 99, 100, 101, 102, 103, 104, 105, 106, 107, 108, 109, 110, 111, 112, 113, 114, 115, 116, 117, 118, 119, 120, 121]
def o23_58 : List AOper := [⟨some 106, .mv (.const (.int .i64 0)), none⟩]
def o23_62 : List AOper := [⟨some 107, .bin .lss (.tmp 106) (.const (.int .i64 3)), none⟩]
def o23_70 : List AOper := [⟨some 108, .mv (.tmp 106), none⟩,
  ⟨some 13, .mv (.tmp 108), none⟩]
def o23_71 : List (AOper × Option Nat) := [(⟨some 109, .fieldAddr 2 (.tmp 3), none⟩, none),
  (⟨some 110, .load false [.slice] (.tmp 109), none⟩, none),
  (⟨some 111, .mv (.tmp 4), none⟩, none),
  (⟨some 112, .mv (.tmp 13), none⟩, none),
  (⟨some 113, .indexAddr 3 (.tmp 110) (.tmp 111), none⟩, none),
  (⟨some 114, .indexArr 3 1 (.tmp 113) (.tmp 112), none⟩, none),
  (⟨some 115, .load false [.int .i64] (.tmp 114), none⟩, none),
  (⟨some 116, .bin .quo (.tmp 115) (.const (.int .i64 4)), none⟩, none),
  (⟨some 117, .indexAddr 3 (.tmp 110) (.tmp 111), none⟩, none),
  (⟨some 118, .indexArr 3 1 (.tmp 117) (.tmp 112), none⟩, none),
  (⟨none, .store 1 (.tmp 118) (.tmp 116), none⟩, none)]
def o23_72 : List AOper := [⟨some 119, .bin .add (.tmp 106) (.const (.int .i64 1)), none⟩,
  ⟨some 106, .mv (.tmp 119), none⟩]
def c23_72 : ACode := .ops o23_72
def b23_60 : ACode := .post (.seq (.ops o23_62) (.seq (.cond (.tmp 107) (.skip) (.exit 6)) (.seq (.block 7 (.seq (.ops o23_70) (.draw [] 0 o23_71 []))) (.clear [0, 5, 6, 7, 8, 9, 10, 11, 12, 13, 14, 15, 16, 17, 18, 19, 20, 21, 22, 23, 24, 25, 26, 27, 28, 29, 32, 33, 34, 35, 36, 37, 38, 39, 40, 41, 42, 43, 44, 45, 46, 47, 48, 49, 50, 51, 52, 53, 54, 55, 56, 57, 58, 59, 60, 61, 62, 63, 64, 65, 66, 67, 68, 69, 70, 71, 72, 73, 74, 75, 76, 77, 78, 79, 80, 81, 82, 83, 84, 85, 86, 87, 88, 89, 90, 91, 92, 93, 94, 95, 96, 97, 98, 99, 100, 101, 102, 103, 104, 105, 107, 108, 109, 110, 111, 112, 113, 114, 115, 116, 117, 118, 119, 120, 121] c23_72)))) [0, 5, 6, 7, 8, 9, 10, 11, 12, 13, 14, 15, 16, 17, 18, 19, 20, 21, 22, 23, 24, 25, 26, 27, 28, 29, 32, 33, 34, 35, 36, 37, 38, 39, 40, 41, 42, 43, 44, 45, 46, 47, 48, 49, 50, 51, 52, 53, 54, 55, 56, 57, 58, 59, 60, 61, 62, 63, 64, 65, 66, 67, 68, 69, 70, 71, 72, 73, 74, 75, 76, 77, 78, 79, 80, 81, 82, 83, 84, 85, 86, 87, 88, 89, 90, 91, 92, 93, 94, 95, 96, 97, 98, 99, 100, 101, 102, 103, 104, 105, 107, 108, 109, 110, 111, 112, 113, 114, 115, 116, 117, 118, 119, 120, 121]
def c23_57 : ACode := .seq (.ops o23_58) (.block 6 (.clear [0, 5, 6, 7, 8, 9, 10, 11, 12, 13, 14, 15, 16, 17, 18, 19, 20, 21, 22, 23, 24, 25, 26, 27, 28, 29, 32, 33, 34, 35, 36, 37, 38, 39, 40, 41, 42, 43, 44, 45, 46, 47, 48, 49, 50, 51, 52, 53, 54, 55, 56, 57, 58, 59, 60, 61, 62, 63, 64, 65, 66, 67, 68, 69, 70, 71, 72, 73, 74, 75, 76, 77, 78, 79, 80, 81, 82, 83, 84, 85, 86, 87, 88, 89, 90, 91, 92, 93, 94, 95, 96, 97, 98, 99, 100, 101, 102, 103, 104, 105, 107, 108, 109, 110, 111, 112, 113, 114, 115, 116, 117, 118, 119, 120, 121] (.loop b23_60)))
def c23_25 : ACode := .seq (.seq (.ops o23_27) (.block 2 (.clear [0, 5, 6, 7, 8, 9, 10, 11, 12, 13, 14, 15, 16, 17, 18, 19, 20, 21, 22, 23, 24, 25, 26, 27, 28, 29, 32, 33, 34, 35, 36, 37, 38, 39, 40, 41, 42, 43, 44, 45, 46, 47, 48, 49, 50, 51, 52, 53, 54, 55, 56, 57, 58, 59, 60, 61, 62, 63, 64, 65, 66, 67, 68, 69, 70, 71, 72, 73, 74, 75, 76, 77, 78, 79, 82, 83, 84, 85, 86, 87, 88, 89, 90, 91, 92, 93, 94, 95, 96, 97, 98, 99, 100, 101, 102, 103, 104, 105, 106, 107, 108, 109, 110, 111, 112, 113, 114, 115, 116, 117, 118, 119, 120, 121] (.loop b23_29)))) (.clear [0, 5, 6, 7, 8, 9, 10, 11, 12, 13, 14, 15, 16, 17, 18, 19, 20, 21, 22, 23, 24, 25, 26, 27, 28, 29, 32, 33, 34, 35, 36, 37, 38, 39, 40, 41, 42, 43, 44, 45, 46, 47, 48, 49, 50, 51, 52, 53, 54, 55, 56, 57, 58, 59, 60, 61, 62, 63, 64, 65, 66, 67, 68, 69, 70, 71, 72, 73, 74, 75, 76, 77, 78, 79, 80, 81, 82, 83, 84, 85, 86, 87, 88, 89, 90, 91, 92, 93, 94, 95, 96, 97, 98, 99, 100, 101, 102, 103, 104, 105, 106, 107, 108, 109, 110, 111, 112, 113, 114, 115, 116, 117, 118, 119, 120, 121] c23_57)
def o23_73 : List AOper := [⟨some 120, .bin .add (.tmp 31) (.const (.int .i64 1)), none⟩,
  ⟨some 31, .mv (.tmp 120), none⟩]
def c23_73 : ACode := .ops o23_73
def b23_10 : ACode := .post (.seq (.ops o23_12) (.seq (.cond (.tmp 32) (.skip) (.exit 0)) (.seq (.block 1 (.seq (.ops o23_20) (.seq (.draw [] 0 o23_22 []) (.seq (.draw [] 0 o23_24 []) (.clear [0, 9, 10, 11, 12, 13, 14, 15, 16, 17, 18, 19, 20, 21, 22, 23, 24, 25, 26, 27, 28, 29, 32, 33, 34, 35, 36, 37, 38, 39, 40, 41, 42, 43, 44, 45, 46, 47, 48, 49, 50, 51, 52, 53, 54, 55, 56, 57, 58, 59, 60, 61, 62, 63, 64, 65, 66, 67, 68, 69, 70, 71, 72, 73, 74, 75, 76, 77, 78, 79, 80, 81, 82, 83, 84, 85, 86, 87, 88, 89, 90, 91, 92, 93, 94, 95, 96, 97, 98, 99, 100, 101, 102, 103, 104, 105, 106, 107, 108, 109, 110, 111, 112, 113, 114, 115, 116, 117, 118, 119, 120, 121] c23_25))))) (.clear [0, 4, 5, 6, 7, 8, 9, 10, 11, 12, 13, 14, 15, 16, 17, 18, 19, 20, 21, 22, 23, 24, 25, 26, 27, 28, 29, 32, 33, 34, 35, 36, 37, 38, 39, 40, 41, 42, 43, 44, 45, 46, 47, 48, 49, 50, 51, 52, 53, 54, 55, 56, 57, 58, 59, 60, 61, 62, 63, 64, 65, 66, 67, 68, 69, 70, 71, 72, 73, 74, 75, 76, 77, 78, 79, 80, 81, 82, 83, 84, 85, 86, 87, 88, 89, 90, 91, 92, 93, 94, 95, 96, 97, 98, 99, 100, 101, 102, 103, 104, 105, 106, 107, 108, 109, 110, 111, 112, 113, 114, 115, 116, 117, 118, 119, 120, 121] c23_73)))) [0, 4, 5, 6, 7, 8, 9, 10, 11, 12, 13, 14, 15, 16, 17, 18, 19, 20, 21, 22, 23, 24, 25, 26, 27, 28, 29, 32, 33, 34, 35, 36, 37, 38, 39, 40, 41, 42, 43, 44, 45, 46, 47, 48, 49, 50, 51, 52, 53, 54, 55, 56, 57, 58, 59, 60, 61, 62, 63, 64, 65, 66, 67, 68, 69, 70, 71, 72, 73, 74, 75, 76, 77, 78, 79, 80, 81, 82, 83, 84, 85, 86, 87, 88, 89, 90, 91, 92, 93, 94, 95, 96, 97, 98, 99, 100, 101, 102, 103, 104, 105, 106, 107, 108, 109, 110, 111, 112, 113, 114, 115, 116, 117, 118, 119, 120, 121]
def o23_75 : List AOper := [⟨some 121, .load true [.int .i64, .int .i64, .slice] (.tmp 3), none⟩,
  ⟨none, .store 3 (.tmp 2) (.tmp 121), none⟩]
def c23_74 : ACode := .seq (.ops o23_75) (.ret)
def c23_0 : ACode := .seq (.ops o23_1) (.seq (.draw [] 0 o23_3 [(1, 7), (4, 7)]) (.seq (.ops o23_5) (.seq (.seq (.ops o23_8) (.block 0 (.clear [0, 4, 5, 6, 7, 8, 9, 10, 11, 12, 13, 14, 15, 16, 17, 18, 19, 20, 21, 22, 23, 24, 25, 26, 27, 28, 29, 32, 33, 34, 35, 36, 37, 38, 39, 40, 41, 42, 43, 44, 45, 46, 47, 48, 49, 50, 51, 52, 53, 54, 55, 56, 57, 58, 59, 60, 61, 62, 63, 64, 65, 66, 67, 68, 69, 70, 71, 72, 73, 74, 75, 76, 77, 78, 79, 80, 81, 82, 83, 84, 85, 86, 87, 88, 89, 90, 91, 92, 93, 94, 95, 96, 97, 98, 99, 100, 101, 102, 103, 104, 105, 106, 107, 108, 109, 110, 111, 112, 113, 114, 115, 116, 117, 118, 119, 120, 121] (.loop b23_10)))) (.clear [0, 1, 4, 5, 6, 7, 8, 9, 10, 11, 12, 13, 14, 15, 16, 17, 18, 19, 20, 21, 22, 23, 24, 25, 26, 27, 28, 29, 30, 31, 32, 33, 34, 35, 36, 37, 38, 39, 40, 41, 42, 43, 44, 45, 46, 47, 48, 49, 50, 51, 52, 53, 54, 55, 56, 57, 58, 59, 60, 61, 62, 63, 64, 65, 66, 67, 68, 69, 70, 71, 72, 73, 74, 75, 76, 77, 78, 79, 80, 81, 82, 83, 84, 85, 86, 87, 88, 89, 90, 91, 92, 93, 94, 95, 96, 97, 98, 99, 100, 101, 102, 103, 104, 105, 106, 107, 108, 109, 110, 111, 112, 113, 114, 115, 116, 117, 118, 119, 120, 121] c23_74))))
def a23 : AFun := ⟨122, [.cell true [.int .i64, .int .i64, .slice] 2], c23_0⟩
theorem ok23 : OkFun Try.prog 23 a23 := ⟨Try.f23, Try.f23.body.getD .skip, Try.func23, by kernel_rfl, by kernel_rfl, by kernel_rfl, by kernel_rfl, by kernel_rfl⟩
/-! #### mip.half -/
def o24_1 : List AOper := [⟨some 2, .mv (.const (.int .i64 0)), none⟩]
def o24_3 : List AOper := [⟨some 3, .mv (.tmp 0), none⟩,
  ⟨some 4, .mv (.tmp 0), none⟩,
  ⟨some 5, .bin .quo (.tmp 4) (.const (.int .i64 2)), none⟩,
  ⟨some 6, .bin .sub (.tmp 3) (.tmp 5), none⟩,
  ⟨some 2, .mv (.tmp 6), none⟩]
def c24_0 : ACode := .seq (.ops o24_1) (.seq (.ops o24_3) (.ret))
def a24 : AFun := ⟨7, [.tmp 2], c24_0⟩
theorem ok24 : OkFun Try.prog 24 a24 := ⟨Try.f24, Try.f24.body.getD .skip, Try.func24, by kernel_rfl, by kernel_rfl, by kernel_rfl, by kernel_rfl, by kernel_rfl⟩
/-! #### slices.Collect[picture.Picture] -/
def o25_1 : List AOper := [⟨some 2, .mv (.const (.slice none 0 0)), none⟩]
def o25_3 : List AOper := [⟨some 3, .mv (.tmp 0), none⟩,
  ⟨some 4, .call false (.func 33) [.const (.slice none 0 0), .tmp 3] [(false, [.slice])] true, none⟩,
  ⟨some 2, .mv (.tmp 4), none⟩]
def c25_0 : ACode := .seq (.ops o25_1) (.seq (.ops o25_3) (.ret))
def a25 : AFun := ⟨5, [.tmp 2], c25_0⟩
theorem ok25 : OkFun Try.prog 25 a25 := ⟨Try.f25, Try.f25.body.getD .skip, Try.func25, by kernel_rfl, by kernel_rfl, by kernel_rfl, by kernel_rfl, by kernel_rfl⟩
/-! #### mip.pyramid -/
def o26_1 : List AOper := [⟨some 1, .box (.tmp 0), none⟩,
  ⟨some 2, .mv (.const (.nilFunc)), none⟩]
def o26_3 : List AOper := [⟨some 3, .makeFunc (.func 34) [] [.tmp 1], none⟩,
  ⟨some 2, .mv (.tmp 3), none⟩]
def c26_0 : ACode := .seq (.ops o26_1) (.seq (.ops o26_3) (.ret))
def a26 : AFun := ⟨4, [.tmp 2], c26_0⟩
theorem ok26 : OkFun Try.prog 26 a26 := ⟨Try.f26, Try.f26.body.getD .skip, Try.func26, by kernel_rfl, by kernel_rfl, by kernel_rfl, by kernel_rfl, by kernel_rfl⟩
/-! #### math/bits.Len -/
def o27_1 : List AOper := [⟨some 2, .mv (.const (.int .i64 0)), none⟩]
def o27_5 : List AOper := [⟨some 3, .mv (.tmp 0), none⟩,
  ⟨some 4, .conv .u32 (.tmp 3), none⟩,
  ⟨some 5, .call true (.func 35) [.tmp 4] [(false, [.int .i64])] true, none⟩,
  ⟨some 2, .mv (.tmp 5), none⟩]
def o27_9 : List AOper := [⟨some 6, .mv (.tmp 0), none⟩,
  ⟨some 7, .call true (.func 36) [.tmp 6] [(false, [.int .i64])] true, none⟩,
  ⟨some 2, .mv (.tmp 7), none⟩]
def c27_0 : ACode := .seq (.ops o27_1) (.seq (.cond (.const (.bool false)) (.seq (.ops o27_5) (.ret)) (.skip)) (.seq (.ops o27_9) (.ret)))
def a27 : AFun := ⟨8, [.tmp 2], c27_0⟩
theorem ok27 : OkFun Try.prog 27 a27 := ⟨Try.f27, Try.f27.body.getD .skip, Try.func27, by kernel_rfl, by kernel_rfl, by kernel_rfl, by kernel_rfl, by kernel_rfl⟩
/-! #### skylightref51.half -/
def o28_1 : List AOper := [⟨some 2, .mv (.const (.int .i64 0)), none⟩]
def o28_3 : List AOper := [⟨some 3, .mv (.tmp 0), none⟩,
  ⟨some 4, .bin .add (.tmp 3) (.const (.int .i64 1)), none⟩,
  ⟨some 5, .bin .quo (.tmp 4) (.const (.int .i64 2)), none⟩,
  ⟨some 2, .mv (.tmp 5), none⟩]
def c28_0 : ACode := .seq (.ops o28_1) (.seq (.ops o28_3) (.ret))
def a28 : AFun := ⟨6, [.tmp 2], c28_0⟩
theorem ok28 : OkFun Try.prog 28 a28 := ⟨Try.f28, Try.f28.body.getD .skip, Try.func28, by kernel_rfl, by kernel_rfl, by kernel_rfl, by kernel_rfl, by kernel_rfl⟩
/-! #### skylightref51.at -/
def o29_1 : List AOper := [⟨some 3, .box (.tmp 0), none⟩,
  ⟨some 6, .alloc [.int .i64 0, .int .i64 0, .int .i64 0], none⟩]
def o29_3 : List AOper := [⟨some 7, .fieldAddr 2 (.tmp 3), none⟩,
  ⟨some 8, .load false [.slice] (.tmp 7), none⟩,
  ⟨some 9, .mv (.tmp 2), none⟩,
  ⟨some 10, .fieldAddr 1 (.tmp 3), none⟩,
  ⟨some 11, .load false [.int .i64] (.tmp 10), none⟩,
  ⟨some 12, .bin .sub (.tmp 11) (.const (.int .i64 1)), none⟩,
  ⟨some 13, .minmax false [.tmp 9, .tmp 12], none⟩,
  ⟨some 14, .fieldAddr 0 (.tmp 3), none⟩,
  ⟨some 15, .load false [.int .i64] (.tmp 14), none⟩,
  ⟨some 16, .bin .mul (.tmp 13) (.tmp 15), none⟩,
  ⟨some 17, .mv (.tmp 1), none⟩,
  ⟨some 18, .fieldAddr 0 (.tmp 3), none⟩,
  ⟨some 19, .load false [.int .i64] (.tmp 18), none⟩,
  ⟨some 20, .bin .sub (.tmp 19) (.const (.int .i64 1)), none⟩,
  ⟨some 21, .minmax false [.tmp 17, .tmp 20], none⟩,
  ⟨some 22, .bin .add (.tmp 16) (.tmp 21), none⟩,
  ⟨some 23, .indexAddr 3 (.tmp 8) (.tmp 22), none⟩,
  ⟨some 24, .load true [.int .i64, .int .i64, .int .i64] (.tmp 23), none⟩,
  ⟨none, .store 3 (.tmp 6) (.tmp 24), none⟩]
def c29_0 : ACode := .seq (.ops o29_1) (.seq (.ops o29_3) (.ret))
def a29 : AFun := ⟨25, [.cell true [.int .i64, .int .i64, .int .i64] 6], c29_0⟩
theorem ok29 : OkFun Try.prog 29 a29 := ⟨Try.f29, Try.f29.body.getD .skip, Try.func29, by kernel_rfl, by kernel_rfl, by kernel_rfl, by kernel_rfl, by kernel_rfl⟩
/-! #### skylightref01.Div -/
def o30_1 : List AOper := [⟨some 4, .mv (.const (.int .i64 0)), none⟩]
def o30_4 : List AOper := [⟨some 6, .mv (.tmp 1), none⟩,
  ⟨some 7, .bin .lss (.tmp 6) (.const (.int .i64 1)), none⟩]
def o30_7 : List AOper := [⟨some 4, .mv (.const (.int .i64 0)), none⟩]
def o30_11 : List AOper := [⟨some 8, .mv (.tmp 0), none⟩,
  ⟨some 9, .mv (.tmp 1), none⟩,
  ⟨some 10, .bin .quo (.tmp 8) (.tmp 9), none⟩,
  ⟨some 5, .mv (.tmp 10), none⟩]
def o30_14 : List AOper := [⟨some 11, .mv (.tmp 0), none⟩,
  ⟨some 12, .bin .lss (.tmp 11) (.const (.int .i64 0)), none⟩,
  ⟨some 13, .mv (.tmp 12), none⟩,
  ⟨some 14, .mv (.tmp 0), some (13, true)⟩,
  ⟨some 15, .mv (.tmp 1), some (13, true)⟩,
  ⟨some 16, .bin .rem (.tmp 14) (.tmp 15), some (13, true)⟩,
  ⟨some 17, .bin .neq (.tmp 16) (.const (.int .i64 0)), some (13, true)⟩,
  ⟨some 18, .pick (.tmp 13) (.tmp 17) (.const (.bool false)), none⟩]
def o30_16 : List AOper := [⟨some 19, .mv (.tmp 5), none⟩,
  ⟨some 20, .bin .sub (.tmp 19) (.const (.int .i64 1)), none⟩,
  ⟨some 5, .mv (.tmp 20), none⟩]
def o30_19 : List AOper := [⟨some 21, .mv (.tmp 5), none⟩,
  ⟨some 4, .mv (.tmp 21), none⟩]
def c30_18 : ACode := .seq (.ops o30_19) (.ret)
def c30_0 : ACode := .seq (.ops o30_1) (.seq (.seq (.ops o30_4) (.cond (.tmp 7) (.seq (.ops o30_7) (.ret)) (.skip))) (.seq (.ops o30_11) (.seq (.seq (.ops o30_14) (.cond (.tmp 18) (.ops o30_16) (.skip))) (.clear [0, 1, 2, 3, 4, 6, 7, 8, 9, 10, 11, 12, 13, 14, 15, 16, 17, 18, 19, 20, 21] c30_18))))
def a30 : AFun := ⟨22, [.tmp 4], c30_0⟩
theorem ok30 : OkFun Try.prog 30 a30 := ⟨Try.f30, Try.f30.body.getD .skip, Try.func30, by kernel_rfl, by kernel_rfl, by kernel_rfl, by kernel_rfl, by kernel_rfl⟩
/-! #### picture.bright -/
def o31_1 : List AOper := [⟨some 2, .mv (.const (.bool false)), none⟩]
def o31_3 : List AOper := [⟨some 3, .mv (.tmp 0), none⟩,
  ⟨some 4, .bin .leq (.const (.int .i64 0)) (.tmp 3), none⟩,
  ⟨some 5, .mv (.tmp 4), none⟩,
  ⟨some 6, .mv (.tmp 0), some (5, true)⟩,
  ⟨some 7, .bin .leq (.tmp 6) (.const (.int .i64 255)), some (5, true)⟩,
  ⟨some 8, .pick (.tmp 5) (.tmp 7) (.const (.bool false)), none⟩,
  ⟨some 2, .mv (.tmp 8), none⟩]
def c31_0 : ACode := .seq (.ops o31_1) (.seq (.ops o31_3) (.ret))
def a31 : AFun := ⟨9, [.tmp 2], c31_0⟩
theorem ok31 : OkFun Try.prog 31 a31 := ⟨Try.f31, Try.f31.body.getD .skip, Try.func31, by kernel_rfl, by kernel_rfl, by kernel_rfl, by kernel_rfl, by kernel_rfl⟩
/-! #### picture.sides -/
def o32_1 : List AOper := [⟨some 6, .mv (.const (.bool false)), none⟩]
def o32_3 : List AOper := [⟨some 7, .mv (.tmp 0), none⟩,
  ⟨some 8, .bin .leq (.const (.int .i64 1)) (.tmp 7), none⟩,
  ⟨some 9, .mv (.tmp 8), none⟩,
  ⟨some 10, .mv (.tmp 0), some (9, true)⟩,
  ⟨some 11, .bin .leq (.tmp 10) (.const (.int .i64 256)), some (9, true)⟩,
  ⟨some 12, .pick (.tmp 9) (.tmp 11) (.const (.bool false)), none⟩,
  ⟨some 13, .mv (.tmp 12), none⟩,
  ⟨some 14, .mv (.tmp 1), some (13, true)⟩,
  ⟨some 15, .bin .leq (.const (.int .i64 1)) (.tmp 14), some (13, true)⟩,
  ⟨some 16, .pick (.tmp 13) (.tmp 15) (.const (.bool false)), none⟩,
  ⟨some 17, .mv (.tmp 16), none⟩,
  ⟨some 18, .mv (.tmp 1), some (17, true)⟩,
  ⟨some 19, .bin .leq (.tmp 18) (.const (.int .i64 256)), some (17, true)⟩,
  ⟨some 20, .pick (.tmp 17) (.tmp 19) (.const (.bool false)), none⟩,
  ⟨some 21, .mv (.tmp 20), none⟩,
  ⟨some 22, .mv (.tmp 2), some (21, true)⟩,
  ⟨some 23, .mv (.tmp 0), some (21, true)⟩,
  ⟨some 24, .mv (.tmp 1), some (21, true)⟩,
  ⟨some 25, .bin .mul (.tmp 23) (.tmp 24), some (21, true)⟩,
  ⟨some 26, .bin .eql (.tmp 22) (.tmp 25), some (21, true)⟩,
  ⟨some 27, .pick (.tmp 21) (.tmp 26) (.const (.bool false)), none⟩,
  ⟨some 6, .mv (.tmp 27), none⟩]
def c32_0 : ACode := .seq (.ops o32_1) (.seq (.ops o32_3) (.ret))
def a32 : AFun := ⟨28, [.tmp 6], c32_0⟩
theorem ok32 : OkFun Try.prog 32 a32 := ⟨Try.f32, Try.f32.body.getD .skip, Try.func32, by kernel_rfl, by kernel_rfl, by kernel_rfl, by kernel_rfl, by kernel_rfl⟩
/-! #### slices.AppendSeq[[]picture.Picture,picture.Picture] -/
def o33_1 : List AOper := [⟨some 2, .box (.tmp 0), none⟩,
  ⟨some 4, .mv (.const (.slice none 0 0)), none⟩]
def o33_4 : List AOper := [⟨some 6, .mv (.tmp 1), none⟩]
def o33_7 : List AOper := [⟨some 5, .alloc [.int .i64 0, .int .i64 0, .slice none 0 0], none⟩,
  ⟨none, .store 3 (.tmp 5) (.tmp 7), none⟩]
def o33_9 : List AOper := [⟨some 8, .load false [.slice] (.tmp 2), none⟩,
  ⟨some 9, .load true [.int .i64, .int .i64, .slice] (.tmp 5), none⟩,
  ⟨some 10, .buildSlice 3 1 [.int .i64 0, .int .i64 0, .slice none 0 0] [(0, 3, .tmp 9)], none⟩,
  ⟨some 11, .append 3 40 (.tmp 8) (.tmp 10), none⟩,
  ⟨none, .store 1 (.tmp 2) (.tmp 11), none⟩]
def b33_6 : ACode := .block 1 (.ops o33_9)
def o33_11 : List AOper := [⟨some 12, .load false [.slice] (.tmp 2), none⟩,
  ⟨some 4, .mv (.tmp 12), none⟩]
def c33_10 : ACode := .seq (.ops o33_11) (.ret)
def c33_0 : ACode := .seq (.ops o33_1) (.seq (.seq (.ops o33_4) (.block 0 (.clear [0, 1, 3, 5, 8, 9, 10, 11, 12] (.rangeFunc (.tmp 6) [7] (.ops o33_7) b33_6)))) (.clear [0, 1, 3, 4, 5, 6, 7, 8, 9, 10, 11, 12] c33_10))
def a33 : AFun := ⟨13, [.tmp 4], c33_0⟩
theorem ok33 : OkFun Try.prog 33 a33 := ⟨Try.f33, Try.f33.body.getD .skip, Try.func33, by kernel_rfl, by kernel_rfl, by kernel_rfl, by kernel_rfl, by kernel_rfl⟩
/-! #### mip.pyramid$1 -/
def o34_4 : List AOper := [⟨some 3, .mv (.tmp 0), none⟩,
  ⟨some 4, .load true [.int .i64, .int .i64, .slice] (.tmp 1), none⟩,
  ⟨some 5, .call false (.tmp 3) [.tmp 4] [(false, [.bool])] true, none⟩,
  ⟨some 6, .mv (.tmp 5), none⟩,
  ⟨some 7, .fieldAddr 2 (.tmp 1), some (6, true)⟩,
  ⟨some 8, .load false [.slice] (.tmp 7), some (6, true)⟩,
  ⟨some 9, .len (.tmp 8), some (6, true)⟩,
  ⟨some 10, .bin .gtr (.tmp 9) (.const (.int .i64 1)), some (6, true)⟩,
  ⟨some 11, .pick (.tmp 6) (.tmp 10) (.const (.bool false)), none⟩]
def o34_9 : List AOper := [⟨some 12, .load true [.int .i64, .int .i64, .slice] (.tmp 1), none⟩,
  ⟨some 13, .call false (.func 23) [.tmp 12] [(true, [.int .i64, .int .i64, .slice])] true, none⟩,
  ⟨none, .store 3 (.tmp 1) (.tmp 13), none⟩]
def b34_1 : ACode := .post (.seq (.seq (.ops o34_4) (.cond (.tmp 11) (.skip) (.exit 0))) (.block 1 (.ops o34_9))) [2, 3, 4, 5, 6, 7, 8, 9, 10, 11, 12, 13]
def c34_0 : ACode := .block 0 (.clear [2, 3, 4, 5, 6, 7, 8, 9, 10, 11, 12, 13] (.loop b34_1))
def a34 : AFun := ⟨14, [], c34_0⟩
theorem ok34 : OkFun Try.prog 34 a34 := ⟨Try.f34, Try.f34.body.getD .skip, Try.func34, by kernel_rfl, by kernel_rfl, by kernel_rfl, by kernel_rfl, by kernel_rfl⟩
/-! #### math/bits.Len32 -/
def o35_1 : List AOper := [⟨some 2, .mv (.const (.int .i64 0)), none⟩]
def o35_4 : List AOper := [⟨some 3, .mv (.tmp 0), none⟩,
  ⟨some 4, .bin .geq (.tmp 3) (.const (.int .u32 65536)), none⟩]
def o35_7 : List AOper := [⟨some 5, .mv (.tmp 0), none⟩,
  ⟨some 6, .bin .shr (.tmp 5) (.const (.int .u64 16)), none⟩,
  ⟨some 0, .mv (.tmp 6), none⟩]
def o35_8 : List AOper := [⟨some 2, .mv (.const (.int .i64 16)), none⟩]
def o35_12 : List AOper := [⟨some 7, .mv (.tmp 0), none⟩,
  ⟨some 8, .bin .geq (.tmp 7) (.const (.int .u32 256)), none⟩]
def o35_15 : List AOper := [⟨some 9, .mv (.tmp 0), none⟩,
  ⟨some 10, .bin .shr (.tmp 9) (.const (.int .u64 8)), none⟩,
  ⟨some 0, .mv (.tmp 10), none⟩]
def o35_16 : List AOper := [⟨some 11, .mv (.tmp 2), none⟩,
  ⟨some 12, .bin .add (.tmp 11) (.const (.int .i64 8)), none⟩,
  ⟨some 2, .mv (.tmp 12), none⟩]
def o35_19 : List AOper := [⟨some 13, .mv (.tmp 2), none⟩,
  ⟨some 14, .mv (.tmp 0), none⟩,
  ⟨some 15, .conv .u8 (.tmp 14), none⟩,
  ⟨some 16, .indexStr (.const (.string (ByteArray.mk #[0, 1, 2, 2, 3, 3, 3, 3, 4, 4, 4, 4, 4, 4, 4, 4, 5, 5, 5, 5, 5, 5, 5, 5, 5, 5, 5, 5, 5, 5, 5, 5, 6, 6, 6, 6, 6, 6, 6, 6, 6, 6, 6, 6, 6, 6, 6, 6, 6, 6, 6, 6, 6, 6, 6, 6, 6, 6, 6, 6, 6, 6, 6, 6, 7, 7, 7, 7, 7, 7, 7, 7, 7, 7, 7, 7, 7, 7, 7, 7, 7, 7, 7, 7, 7, 7, 7, 7, 7, 7, 7, 7, 7, 7, 7, 7, 7, 7, 7, 7, 7, 7, 7, 7, 7, 7, 7, 7, 7, 7, 7, 7, 7, 7, 7, 7, 7, 7, 7, 7, 7, 7, 7, 7, 7, 7, 7, 7, 8, 8, 8, 8, 8, 8, 8, 8, 8, 8, 8, 8, 8, 8, 8, 8, 8, 8, 8, 8, 8, 8, 8, 8, 8, 8, 8, 8, 8, 8, 8, 8, 8, 8, 8, 8, 8, 8, 8, 8, 8, 8, 8, 8, 8, 8, 8, 8, 8, 8, 8, 8, 8, 8, 8, 8, 8, 8, 8, 8, 8, 8, 8, 8, 8, 8, 8, 8, 8, 8, 8, 8, 8, 8, 8, 8, 8, 8, 8, 8, 8, 8, 8, 8, 8, 8, 8, 8, 8, 8, 8, 8, 8, 8, 8, 8, 8, 8, 8, 8, 8, 8, 8, 8, 8, 8, 8, 8, 8, 8, 8, 8, 8, 8, 8, 8, 8, 8, 8, 8, 8, 8, 8, 8, 8, 8, 8, 8]))) (.tmp 15), none⟩,
  ⟨some 17, .conv .i64 (.tmp 16), none⟩,
  ⟨some 18, .bin .add (.tmp 13) (.tmp 17), none⟩,
  ⟨some 2, .mv (.tmp 18), none⟩]
def c35_18 : ACode := .seq (.ops o35_19) (.ret)
def c35_10 : ACode := .seq (.seq (.ops o35_12) (.cond (.tmp 8) (.seq (.ops o35_15) (.ops o35_16)) (.skip))) (.clear [1, 3, 4, 5, 6, 7, 8, 9, 10, 11, 12, 13, 14, 15, 16, 17, 18] c35_18)
def c35_0 : ACode := .seq (.ops o35_1) (.seq (.seq (.ops o35_4) (.cond (.tmp 4) (.seq (.ops o35_7) (.ops o35_8)) (.skip))) (.clear [1, 3, 4, 5, 6, 7, 8, 9, 10, 11, 12, 13, 14, 15, 16, 17, 18] c35_10))
def a35 : AFun := ⟨19, [.tmp 2], c35_0⟩
theorem ok35 : OkFun Try.prog 35 a35 := ⟨Try.f35, Try.f35.body.getD .skip, Try.func35, by kernel_rfl, by kernel_rfl, by kernel_rfl, by kernel_rfl, by kernel_rfl⟩
/-! #### math/bits.Len64 -/
def o36_1 : List AOper := [⟨some 2, .mv (.const (.int .i64 0)), none⟩]
def o36_4 : List AOper := [⟨some 3, .mv (.tmp 0), none⟩,
  ⟨some 4, .bin .geq (.tmp 3) (.const (.int .u64 4294967296)), none⟩]
def o36_7 : List AOper := [⟨some 5, .mv (.tmp 0), none⟩,
  ⟨some 6, .bin .shr (.tmp 5) (.const (.int .u64 32)), none⟩,
  ⟨some 0, .mv (.tmp 6), none⟩]
def o36_8 : List AOper := [⟨some 2, .mv (.const (.int .i64 32)), none⟩]
def o36_12 : List AOper := [⟨some 7, .mv (.tmp 0), none⟩,
  ⟨some 8, .bin .geq (.tmp 7) (.const (.int .u64 65536)), none⟩]
def o36_15 : List AOper := [⟨some 9, .mv (.tmp 0), none⟩,
  ⟨some 10, .bin .shr (.tmp 9) (.const (.int .u64 16)), none⟩,
  ⟨some 0, .mv (.tmp 10), none⟩]
def o36_16 : List AOper := [⟨some 11, .mv (.tmp 2), none⟩,
  ⟨some 12, .bin .add (.tmp 11) (.const (.int .i64 16)), none⟩,
  ⟨some 2, .mv (.tmp 12), none⟩]
def o36_20 : List AOper := [⟨some 13, .mv (.tmp 0), none⟩,
  ⟨some 14, .bin .geq (.tmp 13) (.const (.int .u64 256)), none⟩]
def o36_23 : List AOper := [⟨some 15, .mv (.tmp 0), none⟩,
  ⟨some 16, .bin .shr (.tmp 15) (.const (.int .u64 8)), none⟩,
  ⟨some 0, .mv (.tmp 16), none⟩]
def o36_24 : List AOper := [⟨some 17, .mv (.tmp 2), none⟩,
  ⟨some 18, .bin .add (.tmp 17) (.const (.int .i64 8)), none⟩,
  ⟨some 2, .mv (.tmp 18), none⟩]
def o36_27 : List AOper := [⟨some 19, .mv (.tmp 2), none⟩,
  ⟨some 20, .mv (.tmp 0), none⟩,
  ⟨some 21, .conv .u8 (.tmp 20), none⟩,
  ⟨some 22, .indexStr (.const (.string (ByteArray.mk #[0, 1, 2, 2, 3, 3, 3, 3, 4, 4, 4, 4, 4, 4, 4, 4, 5, 5, 5, 5, 5, 5, 5, 5, 5, 5, 5, 5, 5, 5, 5, 5, 6, 6, 6, 6, 6, 6, 6, 6, 6, 6, 6, 6, 6, 6, 6, 6, 6, 6, 6, 6, 6, 6, 6, 6, 6, 6, 6, 6, 6, 6, 6, 6, 7, 7, 7, 7, 7, 7, 7, 7, 7, 7, 7, 7, 7, 7, 7, 7, 7, 7, 7, 7, 7, 7, 7, 7, 7, 7, 7, 7, 7, 7, 7, 7, 7, 7, 7, 7, 7, 7, 7, 7, 7, 7, 7, 7, 7, 7, 7, 7, 7, 7, 7, 7, 7, 7, 7, 7, 7, 7, 7, 7, 7, 7, 7, 7, 8, 8, 8, 8, 8, 8, 8, 8, 8, 8, 8, 8, 8, 8, 8, 8, 8, 8, 8, 8, 8, 8, 8, 8, 8, 8, 8, 8, 8, 8, 8, 8, 8, 8, 8, 8, 8, 8, 8, 8, 8, 8, 8, 8, 8, 8, 8, 8, 8, 8, 8, 8, 8, 8, 8, 8, 8, 8, 8, 8, 8, 8, 8, 8, 8, 8, 8, 8, 8, 8, 8, 8, 8, 8, 8, 8, 8, 8, 8, 8, 8, 8, 8, 8, 8, 8, 8, 8, 8, 8, 8, 8, 8, 8, 8, 8, 8, 8, 8, 8, 8, 8, 8, 8, 8, 8, 8, 8, 8, 8, 8, 8, 8, 8, 8, 8, 8, 8, 8, 8, 8, 8, 8, 8, 8, 8, 8, 8]))) (.tmp 21), none⟩,
  ⟨some 23, .conv .i64 (.tmp 22), none⟩,
  ⟨some 24, .bin .add (.tmp 19) (.tmp 23), none⟩,
  ⟨some 2, .mv (.tmp 24), none⟩]
def c36_26 : ACode := .seq (.ops o36_27) (.ret)
def c36_18 : ACode := .seq (.seq (.ops o36_20) (.cond (.tmp 14) (.seq (.ops o36_23) (.ops o36_24)) (.skip))) (.clear [1, 3, 4, 5, 6, 7, 8, 9, 10, 11, 12, 13, 14, 15, 16, 17, 18, 19, 20, 21, 22, 23, 24] c36_26)
def c36_10 : ACode := .seq (.seq (.ops o36_12) (.cond (.tmp 8) (.seq (.ops o36_15) (.ops o36_16)) (.skip))) (.clear [1, 3, 4, 5, 6, 7, 8, 9, 10, 11, 12, 13, 14, 15, 16, 17, 18, 19, 20, 21, 22, 23, 24] c36_18)
def c36_0 : ACode := .seq (.ops o36_1) (.seq (.seq (.ops o36_4) (.cond (.tmp 4) (.seq (.ops o36_7) (.ops o36_8)) (.skip))) (.clear [1, 3, 4, 5, 6, 7, 8, 9, 10, 11, 12, 13, 14, 15, 16, 17, 18, 19, 20, 21, 22, 23, 24] c36_10))
def a36 : AFun := ⟨25, [.tmp 2], c36_0⟩
theorem ok36 : OkFun Try.prog 36 a36 := ⟨Try.f36, Try.f36.body.getD .skip, Try.func36, by kernel_rfl, by kernel_rfl, by kernel_rfl, by kernel_rfl, by kernel_rfl⟩
end Go.Proofs.Ytncfdkmhpnopiaa
