/- Functions as the interpreter takes them, and that the program's are so. -/
import Derived.Test.YtpnknolehckfhaaAxC
import Derived.Test.YtpnknolehckfhaaProg
set_option linter.unusedVariables false
set_option maxRecDepth 100000
namespace Go.Proofs.Ytpnknolehckfhaa
open Go Go.Ax
def zl0 : List Nat := [0] ++ rg 5 4 ++ rg 14 173
def zl1 : List Nat := [0] ++ rg 5 4 ++ [13, 14, 16] ++ rg 20 167
def zl2 : List Nat := [0] ++ rg 5 4 ++ [13, 14, 16] ++ rg 21 166
def zl3 : List Nat := [0, 1, 3] ++ rg 5 10 ++ [18, 19, 20] ++ rg 23 164
def zl4 : List Nat := [0, 3] ++ rg 5 5 ++ [13, 14, 16] ++ rg 18 169
def zl5 : List Nat := [0] ++ rg 5 4 ++ rg 13 174
def zl6 : List Nat := [0] ++ rg 5 4 ++ rg 11 176
def zl7 : List Nat := [0, 1] ++ rg 5 4 ++ [10, 14] ++ rg 20 238
def zl8 : List Nat := [0, 1] ++ rg 5 4 ++ [10, 14] ++ rg 18 240
def zl9 : List Nat := [0, 1, 2] ++ rg 5 4 ++ [10, 14, 17, 18, 19] ++ rg 22 236
def zl10 : List Nat := [0, 1, 2] ++ rg 5 4 ++ [10, 14, 17, 18, 19] ++ rg 21 149 ++ rg 171 87
def zl11 : List Nat := [0, 1, 2] ++ rg 5 4 ++ [10, 14, 17, 18, 19] ++ rg 21 237
def zl12 : List Nat := rg 0 4 ++ rg 5 4 ++ [10] ++ rg 12 10 ++ rg 26 197 ++ rg 224 34
def zl13 : List Nat := rg 0 4 ++ rg 5 4 ++ [10] ++ rg 12 10 ++ rg 26 6 ++ rg 33 225
def zl14 : List Nat := rg 0 4 ++ rg 5 4 ++ [10] ++ rg 12 10 ++ [28] ++ rg 30 228
def zl15 : List Nat := rg 0 4 ++ rg 5 4 ++ [10] ++ rg 14 244
def zl16 : List Nat := [0, 1, 2] ++ rg 5 4 ++ [10, 14] ++ rg 17 241
def zl17 : List Nat := [0] ++ rg 5 49 ++ rg 55 203
def zl18 : List Nat := [0, 1] ++ rg 5 4 ++ [10] ++ rg 15 243
def zl19 : List Nat := [0] ++ rg 5 4 ++ rg 15 141
def zl20 : List Nat := [0] ++ rg 5 4 ++ rg 13 143
def zl21 : List Nat := [0] ++ rg 5 4 ++ rg 14 142
def zl22 : List Nat := [0] ++ rg 5 4 ++ rg 12 144
def zl23 : List Nat := rg 0 4 ++ rg 5 4 ++ rg 11 4 ++ rg 18 138
def zl24 : List Nat := [0, 2, 3] ++ rg 5 4 ++ rg 11 145
def zl25 : List Nat := [1, 2] ++ rg 5 21
def zl26 : List Nat := [1, 2] ++ rg 4 22
def zl27 : List Nat := [0] ++ rg 5 47
def zl28 : List Nat := [0, 2] ++ rg 5 47
def zl29 : List Nat := [0, 4, 5] ++ rg 7 13 ++ rg 23 18 ++ rg 42 11
def zl30 : List Nat := rg 0 6 ++ [7, 8] ++ rg 10 30 ++ rg 42 11
def zl31 : List Nat := rg 0 9 ++ rg 10 43
def zl32 : List Nat := [0, 4, 5] ++ rg 7 34 ++ rg 42 11
def zl33 : List Nat := [0, 1, 2] ++ rg 4 22
def zl34 : List Nat := rg 3 4 ++ rg 9 34
def zl35 : List Nat := rg 0 7 ++ rg 8 35
def zl36 : List Nat := rg 1 70 ++ rg 72 18
def zl37 : List Nat := rg 1 89
def zl38 : List Nat := rg 0 78
def zl39 : List Nat := [0, 3, 4] ++ rg 6 22
def zl40 : List Nat := [0, 1] ++ rg 3 25
def zl41 : List Nat := rg 1 22
def zl42 : List Nat := [0] ++ rg 6 5 ++ [14, 15] ++ rg 17 99
def zl43 : List Nat := [0] ++ rg 6 5 ++ rg 14 52 ++ rg 67 49
def zl44 : List Nat := [0] ++ rg 6 5 ++ rg 14 102
def zl45 : List Nat := [0] ++ rg 6 5 ++ rg 13 103
def zl46 : List Nat := [0] ++ rg 6 5 ++ rg 12 104
def zl47 : List Nat := rg 0 116
def zl48 : List Nat := [0, 4, 5, 7] ++ rg 9 65
def zl49 : List Nat := [0, 4, 5] ++ rg 7 67
def zl50 : List Nat := rg 1 68 ++ rg 70 15
def zl51 : List Nat := rg 0 85
def zl52 : List Nat := rg 1 6 ++ rg 11 125
def zl53 : List Nat := rg 0 136
def zl54 : List Nat := rg 1 8 ++ rg 10 126
def zl55 : List Nat := rg 1 135
def zl56 : List Nat := [1, 2, 3] ++ rg 6 57
def zl57 : List Nat := [1, 2, 3] ++ rg 5 58
def zl58 : List Nat := [2, 3, 4] ++ rg 6 20
def zl59 : List Nat := rg 0 26
def zl60 : List Nat := rg 0 5 ++ rg 7 22 ++ rg 31 13
def zl61 : List Nat := rg 0 6 ++ rg 7 37
def zl62 : List Nat := [1, 2, 3] ++ rg 5 77
def zl63 : List Nat := rg 2 10 ++ rg 14 12
def zl64 : List Nat := [0, 4, 5, 6] ++ rg 10 52
def zl65 : List Nat := [0, 4, 5, 6] ++ rg 9 53
def zl66 : List Nat := [0, 2, 4, 5, 6] ++ rg 8 54
def zl67 : List Nat := [0, 1] ++ rg 3 16
def zl68 : List Nat := [3, 4, 5] ++ rg 7 9 ++ rg 19 4 ++ rg 25 25
def zl69 : List Nat := rg 3 13 ++ rg 19 31
def zl70 : List Nat := rg 3 47
/-! #### skylightlaw34.PeekWhole -/
def o3_1 : List AOper := [⟨some 4, .box (.tmp 0), none⟩,
  ⟨some 8, .mv (.const (.bool false)), none⟩]
def o3_4 : List AOper := [⟨some 23, .load true [.int .i64, .int .i64] (.tmp 4), none⟩,
  ⟨some 24, .call true (.func 6) [.tmp 23] [(false, [.bool])] true, none⟩,
  ⟨some 25, .un .not (.tmp 24), none⟩,
  ⟨some 26, .mv (.tmp 25), none⟩,
  ⟨some 27, .fieldAddr 0 (.tmp 4), some (26, false)⟩,
  ⟨some 28, .load false [.int .i64] (.tmp 27), some (26, false)⟩,
  ⟨some 29, .bin .gtr (.tmp 28) (.const (.int .i64 10)), some (26, false)⟩,
  ⟨some 30, .pick (.tmp 26) (.const (.bool true)) (.tmp 29), none⟩,
  ⟨some 31, .mv (.tmp 30), none⟩,
  ⟨some 32, .fieldAddr 1 (.tmp 4), some (31, false)⟩,
  ⟨some 33, .load false [.int .i64] (.tmp 32), some (31, false)⟩,
  ⟨some 34, .bin .gtr (.tmp 33) (.const (.int .i64 4)), some (31, false)⟩,
  ⟨some 35, .pick (.tmp 31) (.const (.bool true)) (.tmp 34), none⟩,
  ⟨some 36, .mv (.tmp 35), none⟩,
  ⟨some 37, .mv (.tmp 2), some (36, false)⟩,
  ⟨some 38, .call false (.func 7) [.tmp 37] [(false, [.bool])] true, some (36, false)⟩,
  ⟨some 39, .un .not (.tmp 38), some (36, false)⟩,
  ⟨some 40, .pick (.tmp 36) (.const (.bool true)) (.tmp 39), none⟩,
  ⟨some 41, .mv (.tmp 40), none⟩,
  ⟨some 42, .mv (.tmp 3), some (41, false)⟩,
  ⟨some 43, .len (.tmp 42), some (41, false)⟩,
  ⟨some 44, .bin .gtr (.tmp 43) (.const (.int .i64 200)), some (41, false)⟩,
  ⟨some 45, .pick (.tmp 41) (.const (.bool true)) (.tmp 44), none⟩]
def o3_7 : List AOper := [⟨some 46, .call true (.func 8) [] [(false, [.bool])] true, none⟩,
  ⟨some 8, .mv (.tmp 46), none⟩]
def o3_11 : List AOper := [⟨some 47, .load true [.int .i64, .int .i64] (.tmp 4), none⟩,
  ⟨some 48, .call true (.func 10) [.tmp 47] [(false, [.int .i64])] true, none⟩,
  ⟨some 49, .call false (.func 9) [.tmp 48] [(false, [.ptr])] true, none⟩,
  ⟨some 9, .mv (.tmp 49), none⟩]
def o3_13 : List AOper := [⟨some 50, .load true [.int .i64, .int .i64] (.tmp 4), none⟩,
  ⟨some 51, .call true (.func 12) [.tmp 50] [(true, [.int .i64, .int .i64])] true, none⟩,
  ⟨some 52, .mv (.tmp 1), none⟩,
  ⟨some 53, .conv .i64 (.tmp 52), none⟩,
  ⟨some 54, .bin .rem (.tmp 53) (.const (.int .i64 20)), none⟩,
  ⟨some 55, .bin .add (.const (.int .i64 1)) (.tmp 54), none⟩,
  ⟨some 56, .call false (.func 11) [.tmp 51, .tmp 55] [(false, [.ptr])] true, none⟩,
  ⟨some 10, .mv (.tmp 56), none⟩]
def o3_15 : List AOper := [⟨some 11, .mv (.const (.slice none 0 0)), none⟩]
def o3_17 : List AOper := [⟨some 12, .mv (.const (.slice none 0 0)), none⟩]
def o3_20 : List AOper := [⟨some 13, .mv (.const (.int .i64 0)), none⟩]
def o3_25 : List AOper := [⟨some 57, .mv (.tmp 13), none⟩,
  ⟨some 58, .mv (.tmp 2), none⟩,
  ⟨some 59, .len (.tmp 58), none⟩,
  ⟨some 60, .bin .lss (.tmp 57) (.tmp 59), none⟩]
def o3_32 : List (AOper × Option Nat) := [(⟨some 63, .load true [.int .i64, .int .i64] (.tmp 4), none⟩, none),
  (⟨some 64, .call true (.func 12) [.tmp 63] [(true, [.int .i64, .int .i64])] true, none⟩, none),
  (⟨some 65, .mv (.tmp 2), none⟩, none),
  (⟨some 66, .mv (.tmp 13), none⟩, none),
  (⟨some 67, .indexAddr 2 (.tmp 65) (.tmp 66), none⟩, none),
  (⟨some 68, .fieldAddr 0 (.tmp 67), none⟩, none),
  (⟨some 69, .load false [.int .i64] (.tmp 68), none⟩, none),
  (⟨some 70, .mv (.tmp 2), none⟩, none),
  (⟨some 71, .mv (.tmp 13), none⟩, none),
  (⟨some 72, .indexAddr 2 (.tmp 70) (.tmp 71), none⟩, none),
  (⟨some 73, .fieldAddr 1 (.tmp 72), none⟩, none),
  (⟨some 74, .load false [.slice] (.tmp 73), none⟩, none),
  (⟨some 75, .call false (.func 14) [.tmp 74] [(false, [.slice])] true, none⟩, none),
  (⟨some 76, .call false (.func 13) [.tmp 64, .tmp 69, .tmp 75] [(false, [.ptr])] true, none⟩, none),
  (⟨some 14, .mv (.tmp 76), none⟩, none)]
def o3_34 : List AOper := [⟨some 77, .mv (.tmp 14), none⟩,
  ⟨some 78, .eqNil 0 true (.tmp 77), none⟩]
def o3_37 : List AOper := [⟨some 79, .mv (.tmp 11), none⟩,
  ⟨some 80, .mv (.tmp 14), none⟩,
  ⟨some 81, .buildSlice 1 1 [.pointer none] [(0, 1, .tmp 80)], none⟩,
  ⟨some 82, .append 1 8 (.tmp 79) (.tmp 81), none⟩,
  ⟨some 11, .mv (.tmp 82), none⟩]
def o3_38 : List AOper := [⟨some 83, .mv (.tmp 12), none⟩,
  ⟨some 84, .mv (.tmp 13), none⟩,
  ⟨some 85, .buildSlice 1 1 [.int .i64 0] [(0, 1, .tmp 84)], none⟩,
  ⟨some 86, .append 1 8 (.tmp 83) (.tmp 85), none⟩,
  ⟨some 12, .mv (.tmp 86), none⟩]
def o3_40 : List AOper := [⟨some 61, .mv (.tmp 13), none⟩,
  ⟨some 62, .bin .add (.tmp 61) (.const (.int .i64 1)), none⟩,
  ⟨some 13, .mv (.tmp 62), none⟩]
def c3_40 : ACode := .ops o3_40
def b3_22 : ACode := .post (.seq (.seq (.ops o3_25) (.cond (.tmp 60) (.skip) (.exit 0))) (.seq (.block 1 (.seq (.draw [] 0 o3_32 [(6, 12)]) (.seq (.ops o3_34) (.cond (.tmp 78) (.seq (.ops o3_37) (.ops o3_38)) (.skip))))) (.clear zl0 c3_40))) zl0
def o3_42 : List AOper := [⟨some 15, .mv (.const (.int .i64 0)), none⟩,
  ⟨some 16, .mv (.const (.int .i64 0)), none⟩]
def o3_44 : List AOper := [⟨some 17, .mv (.const (.bool false)), none⟩,
  ⟨some 18, .mv (.const (.bool false)), none⟩]
def o3_47 : List AOper := [⟨some 19, .mv (.const (.int .i64 0)), none⟩]
def o3_52 : List AOper := [⟨some 87, .mv (.tmp 19), none⟩,
  ⟨some 88, .mv (.tmp 3), none⟩,
  ⟨some 89, .len (.tmp 88), none⟩,
  ⟨some 90, .bin .lss (.tmp 87) (.tmp 89), none⟩,
  ⟨some 91, .mv (.tmp 90), none⟩,
  ⟨some 92, .mv (.tmp 10), some (91, true)⟩,
  ⟨some 93, .call false (.func 15) [.tmp 92] [(false, [.bool])] true, some (91, true)⟩,
  ⟨some 94, .un .not (.tmp 93), some (91, true)⟩,
  ⟨some 95, .pick (.tmp 91) (.tmp 94) (.const (.bool false)), none⟩]
def o3_59 : List AOper := [⟨some 98, .mv (.tmp 3), none⟩,
  ⟨some 99, .mv (.tmp 19), none⟩,
  ⟨some 100, .indexAddr 1 (.tmp 98) (.tmp 99), none⟩,
  ⟨some 101, .load false [.int .u8] (.tmp 100), none⟩,
  ⟨some 102, .conv .i64 (.tmp 101), none⟩,
  ⟨some 103, .mv (.tmp 11), none⟩,
  ⟨some 104, .len (.tmp 103), none⟩,
  ⟨some 105, .bin .add (.tmp 104) (.const (.int .i64 1)), none⟩,
  ⟨some 106, .bin .rem (.tmp 102) (.tmp 105), none⟩,
  ⟨some 20, .mv (.tmp 106), none⟩]
def o3_62 : List AOper := [⟨some 107, .mv (.tmp 20), none⟩,
  ⟨some 108, .bin .eql (.tmp 107) (.const (.int .i64 0)), none⟩,
  ⟨some 109, .mv (.tmp 108), none⟩,
  ⟨some 110, .mv (.tmp 18), some (109, true)⟩,
  ⟨some 111, .un .not (.tmp 110), some (109, true)⟩,
  ⟨some 112, .pick (.tmp 109) (.tmp 111) (.const (.bool false)), none⟩]
def o3_65 : List AOper := [⟨some 18, .mv (.const (.bool true)), none⟩]
def o3_66 : List AOper := [⟨some 113, .mv (.tmp 11), none⟩,
  ⟨some 114, .mv (.tmp 12), none⟩,
  ⟨some 115, .call false (.func 16) [.tmp 113, .tmp 114, .const (.bool true)] [(false, [.int .i64])] true, none⟩,
  ⟨some 15, .mv (.tmp 115), none⟩]
def o3_70 : List AOper := [⟨some 116, .mv (.tmp 20), none⟩,
  ⟨some 117, .bin .eql (.tmp 116) (.const (.int .i64 0)), none⟩,
  ⟨some 118, .mv (.tmp 117), none⟩,
  ⟨some 119, .mv (.tmp 10), some (118, true)⟩,
  ⟨some 120, .mv (.tmp 9), some (118, true)⟩,
  ⟨some 121, .call false (.func 17) [.tmp 119, .tmp 120] [(false, [.bool])] true, some (118, true)⟩,
  ⟨some 122, .un .not (.tmp 121), some (118, true)⟩,
  ⟨some 123, .pick (.tmp 118) (.tmp 122) (.const (.bool false)), none⟩]
def o3_73 : List AOper := [⟨some 8, .mv (.const (.bool false)), none⟩]
def o3_78 : List AOper := [⟨some 124, .mv (.tmp 20), none⟩,
  ⟨some 125, .bin .gtr (.tmp 124) (.const (.int .i64 0)), none⟩]
def o3_80 : List AOper := [⟨some 126, .mv (.tmp 11), none⟩,
  ⟨some 127, .mv (.tmp 20), none⟩,
  ⟨some 128, .bin .sub (.tmp 127) (.const (.int .i64 1)), none⟩,
  ⟨some 129, .indexAddr 1 (.tmp 126) (.tmp 128), none⟩,
  ⟨some 130, .load false [.ptr] (.tmp 129), none⟩,
  ⟨some 131, .mv (.tmp 9), none⟩,
  ⟨some 132, .call false (.func 18) [.tmp 130, .tmp 131] [(false, [.bool])] true, none⟩]
def o3_82 : List AOper := [⟨some 133, .mv (.tmp 17), none⟩,
  ⟨some 134, .mv (.tmp 133), none⟩,
  ⟨some 135, .mv (.tmp 18), some (134, false)⟩,
  ⟨some 136, .mv (.tmp 135), some (134, false)⟩,
  ⟨some 137, .load true [.int .i64, .int .i64] (.tmp 4), some (136, true)⟩,
  ⟨some 138, .mv (.tmp 11), some (136, true)⟩,
  ⟨some 139, .call false (.func 19) [.tmp 137, .tmp 138] [(false, [.bool])] true, some (136, true)⟩,
  ⟨some 140, .pick (.tmp 136) (.tmp 139) (.const (.bool false)), some (134, false)⟩,
  ⟨some 141, .pick (.tmp 134) (.const (.bool true)) (.tmp 140), none⟩,
  ⟨some 17, .mv (.tmp 141), none⟩]
def c3_82 : ACode := .ops o3_82
def c3_68 : ACode := .seq (.seq (.ops o3_70) (.cond (.tmp 123) (.seq (.ops o3_73) (.ret)) (.skip))) (.seq (.seq (.ops o3_78) (.cond (.tmp 125) (.ops o3_80) (.skip))) (.clear zl1 c3_82))
def o3_83 : List AOper := [⟨some 96, .mv (.tmp 19), none⟩,
  ⟨some 97, .bin .add (.tmp 96) (.const (.int .i64 1)), none⟩,
  ⟨some 19, .mv (.tmp 97), none⟩]
def c3_83 : ACode := .ops o3_83
def b3_49 : ACode := .post (.seq (.seq (.ops o3_52) (.cond (.tmp 95) (.skip) (.exit 2))) (.seq (.block 3 (.seq (.ops o3_59) (.seq (.seq (.ops o3_62) (.cond (.tmp 112) (.seq (.ops o3_65) (.ops o3_66)) (.skip))) (.clear zl2 c3_68)))) (.clear zl1 c3_83))) zl1
def o3_86 : List AOper := [⟨some 142, .mv (.tmp 10), none⟩,
  ⟨some 143, .call false (.func 15) [.tmp 142] [(false, [.bool])] true, none⟩,
  ⟨some 144, .un .not (.tmp 143), none⟩]
def o3_89 : List AOper := [⟨some 145, .call true (.func 8) [] [(false, [.bool])] true, none⟩,
  ⟨some 8, .mv (.tmp 145), none⟩]
def o3_93 : List AOper := [⟨some 147, .mv (.tmp 10), none⟩,
  ⟨some 148, .call false (.func 20) [.tmp 147] [(false, [.slice]), (false, [.int .i64])] false, none⟩,
  ⟨some 146, .mv (.tmp 148), none⟩,
  ⟨some 149, .extract (.tmp 146) 0, none⟩,
  ⟨some 150, .extract (.tmp 146) 1, none⟩,
  ⟨some 21, .mv (.tmp 149), none⟩,
  ⟨some 22, .mv (.tmp 150), none⟩]
def o3_96 : List AOper := [⟨some 151, .mv (.tmp 22), none⟩,
  ⟨some 152, .bin .eql (.tmp 151) (.const (.int .i64 12)), none⟩]
def o3_99 : List AOper := [⟨some 153, .mv (.tmp 21), none⟩,
  ⟨some 154, .len (.tmp 153), none⟩,
  ⟨some 155, .bin .eql (.tmp 154) (.const (.int .i64 0)), none⟩,
  ⟨some 156, .mv (.tmp 155), none⟩,
  ⟨some 157, .mv (.tmp 10), some (156, true)⟩,
  ⟨some 158, .call false (.func 21) [.tmp 157] [(false, [.int .i64])] true, some (156, true)⟩,
  ⟨some 159, .mv (.tmp 1), some (156, true)⟩,
  ⟨some 160, .conv .i64 (.tmp 159), some (156, true)⟩,
  ⟨some 161, .bin .rem (.tmp 160) (.const (.int .i64 20)), some (156, true)⟩,
  ⟨some 162, .bin .add (.const (.int .i64 1)) (.tmp 161), some (156, true)⟩,
  ⟨some 163, .bin .eql (.tmp 158) (.tmp 162), some (156, true)⟩,
  ⟨some 164, .pick (.tmp 156) (.tmp 163) (.const (.bool false)), none⟩,
  ⟨some 165, .mv (.tmp 164), none⟩,
  ⟨some 166, .call true (.func 8) [] [(false, [.bool])] true, some (165, true)⟩,
  ⟨some 167, .pick (.tmp 165) (.tmp 166) (.const (.bool false)), none⟩,
  ⟨some 8, .mv (.tmp 167), none⟩]
def o3_103 : List AOper := [⟨some 168, .mv (.tmp 11), none⟩,
  ⟨some 169, .mv (.tmp 12), none⟩,
  ⟨some 170, .call false (.func 16) [.tmp 168, .tmp 169, .const (.bool false)] [(false, [.int .i64])] true, none⟩,
  ⟨some 16, .mv (.tmp 170), none⟩]
def o3_105 : List AOper := [⟨some 171, .mv (.tmp 22), none⟩,
  ⟨some 172, .bin .eql (.tmp 171) (.const (.int .i64 0)), none⟩,
  ⟨some 173, .mv (.tmp 172), none⟩,
  ⟨some 174, .mv (.tmp 17), some (173, true)⟩,
  ⟨some 175, .pick (.tmp 173) (.tmp 174) (.const (.bool false)), none⟩,
  ⟨some 176, .mv (.tmp 175), none⟩,
  ⟨some 177, .load true [.int .i64, .int .i64] (.tmp 4), some (176, true)⟩,
  ⟨some 178, .mv (.tmp 2), some (176, true)⟩,
  ⟨some 179, .mv (.tmp 21), some (176, true)⟩,
  ⟨some 180, .mv (.tmp 15), some (176, true)⟩,
  ⟨some 181, .mv (.tmp 16), some (176, true)⟩,
  ⟨some 182, .call false (.func 22) [.tmp 177, .tmp 178, .tmp 179, .tmp 180, .tmp 181] [(false, [.bool])] true, some (176, true)⟩,
  ⟨some 183, .pick (.tmp 176) (.tmp 182) (.const (.bool false)), none⟩,
  ⟨some 184, .mv (.tmp 183), none⟩,
  ⟨some 185, .call true (.func 8) [] [(false, [.bool])] true, some (184, true)⟩,
  ⟨some 186, .pick (.tmp 184) (.tmp 185) (.const (.bool false)), none⟩,
  ⟨some 8, .mv (.tmp 186), none⟩]
def c3_104 : ACode := .seq (.ops o3_105) (.ret)
def c3_84 : ACode := .seq (.seq (.ops o3_86) (.cond (.tmp 144) (.seq (.ops o3_89) (.ret)) (.skip))) (.seq (.ops o3_93) (.seq (.seq (.ops o3_96) (.cond (.tmp 152) (.seq (.ops o3_99) (.ret)) (.skip))) (.seq (.ops o3_103) (.clear zl3 c3_104))))
def c3_41 : ACode := .seq (.ops o3_42) (.seq (.ops o3_44) (.seq (.seq (.ops o3_47) (.block 2 (.clear zl1 (.loop b3_49)))) (.clear zl4 c3_84)))
def c3_14 : ACode := .seq (.ops o3_15) (.seq (.ops o3_17) (.seq (.seq (.ops o3_20) (.block 0 (.clear zl0 (.loop b3_22)))) (.clear zl5 c3_41)))
def c3_0 : ACode := .seq (.ops o3_1) (.seq (.seq (.ops o3_4) (.cond (.tmp 45) (.seq (.ops o3_7) (.ret)) (.skip))) (.seq (.ops o3_11) (.seq (.ops o3_13) (.clear zl6 c3_14))))
def a3 : AFun := ⟨187, [.tmp 8], c3_0⟩
theorem ok3 : OkFun Try.prog 3 a3 := ⟨Try.f3, Try.f3.body.getD .skip, Try.func3, by kernel_rfl, by kernel_rfl, by kernel_rfl, by kernel_rfl, by kernel_rfl⟩
/-! #### skylightlaw34.PeekPlays -/
def o4_1 : List AOper := [⟨some 4, .box (.tmp 0), none⟩,
  ⟨some 8, .mv (.const (.bool false)), none⟩]
def o4_4 : List AOper := [⟨some 33, .load true [.int .i64, .int .i64] (.tmp 4), none⟩,
  ⟨some 34, .call true (.func 6) [.tmp 33] [(false, [.bool])] true, none⟩,
  ⟨some 35, .mv (.tmp 34), none⟩,
  ⟨some 36, .fieldAddr 0 (.tmp 4), some (35, true)⟩,
  ⟨some 37, .load false [.int .i64] (.tmp 36), some (35, true)⟩,
  ⟨some 38, .bin .gtr (.tmp 37) (.const (.int .i64 10)), some (35, true)⟩,
  ⟨some 39, .mv (.tmp 38), some (35, true)⟩,
  ⟨some 40, .fieldAddr 1 (.tmp 4), some (39, false)⟩,
  ⟨some 41, .load false [.int .i64] (.tmp 40), some (39, false)⟩,
  ⟨some 42, .bin .gtr (.tmp 41) (.const (.int .i64 4)), some (39, false)⟩,
  ⟨some 43, .pick (.tmp 39) (.const (.bool true)) (.tmp 42), some (35, true)⟩,
  ⟨some 44, .pick (.tmp 35) (.tmp 43) (.const (.bool false)), none⟩,
  ⟨some 45, .mv (.tmp 44), none⟩,
  ⟨some 46, .mv (.tmp 2), some (45, false)⟩,
  ⟨some 47, .call false (.func 7) [.tmp 46] [(false, [.bool])] true, some (45, false)⟩,
  ⟨some 48, .un .not (.tmp 47), some (45, false)⟩,
  ⟨some 49, .pick (.tmp 45) (.const (.bool true)) (.tmp 48), none⟩,
  ⟨some 50, .mv (.tmp 49), none⟩,
  ⟨some 51, .mv (.tmp 3), some (50, false)⟩,
  ⟨some 52, .len (.tmp 51), some (50, false)⟩,
  ⟨some 53, .bin .gtr (.tmp 52) (.const (.int .i64 200)), some (50, false)⟩,
  ⟨some 54, .pick (.tmp 50) (.const (.bool true)) (.tmp 53), none⟩]
def o4_7 : List AOper := [⟨some 55, .call true (.func 8) [] [(false, [.bool])] true, none⟩,
  ⟨some 8, .mv (.tmp 55), none⟩]
def c4_5 : ACode := .cond (.tmp 54) (.seq (.ops o4_7) (.ret)) (.skip)
def o4_11 : List AOper := [⟨some 57, .load true [.int .i64, .int .i64] (.tmp 4), none⟩,
  ⟨some 58, .call true (.func 10) [.tmp 57] [(false, [.int .i64])] true, none⟩,
  ⟨some 59, .call false (.func 23) [.tmp 58] [(true, [.slice, .int .i64, .int .i64]), (false, [.bool])] false, none⟩,
  ⟨some 56, .mv (.tmp 59), none⟩,
  ⟨some 60, .extract (.tmp 56) 0, none⟩,
  ⟨some 61, .extract (.tmp 56) 1, none⟩,
  ⟨some 9, .alloc [.slice none 0 0, .int .i64 0, .int .i64 0], none⟩,
  ⟨none, .store 3 (.tmp 9) (.tmp 60), none⟩,
  ⟨some 10, .mv (.tmp 61), none⟩]
def o4_13 : List AOper := [⟨some 62, .load true [.int .i64, .int .i64] (.tmp 4), none⟩,
  ⟨some 63, .call true (.func 10) [.tmp 62] [(false, [.int .i64])] true, none⟩,
  ⟨some 64, .call false (.func 9) [.tmp 63] [(false, [.ptr])] true, none⟩,
  ⟨some 11, .mv (.tmp 64), none⟩]
def o4_15 : List AOper := [⟨some 65, .load true [.int .i64, .int .i64] (.tmp 4), none⟩,
  ⟨some 66, .call true (.func 12) [.tmp 65] [(true, [.int .i64, .int .i64])] true, none⟩,
  ⟨some 67, .mv (.tmp 1), none⟩,
  ⟨some 68, .call false (.func 11) [.tmp 66, .tmp 67] [(false, [.ptr])] true, none⟩,
  ⟨some 12, .mv (.tmp 68), none⟩]
def o4_17 : List AOper := [⟨some 70, .load true [.int .i64, .int .i64] (.tmp 4), none⟩,
  ⟨some 71, .mv (.tmp 1), none⟩,
  ⟨some 72, .call false (.func 24) [.tmp 70, .tmp 71] [(true, [.int .i64, .int .i64, .int .i64, .int .i64, .slice, .int .i64]), (false, [.bool])] false, none⟩,
  ⟨some 69, .mv (.tmp 72), none⟩,
  ⟨some 73, .extract (.tmp 69) 0, none⟩,
  ⟨some 74, .extract (.tmp 69) 1, none⟩,
  ⟨some 13, .alloc [.int .i64 0, .int .i64 0, .int .i64 0, .int .i64 0, .slice none 0 0, .int .i64 0], none⟩,
  ⟨none, .store 6 (.tmp 13) (.tmp 73), none⟩,
  ⟨some 14, .mv (.tmp 74), none⟩]
def o4_20 : List AOper := [⟨some 75, .mv (.tmp 12), none⟩,
  ⟨some 76, .eqNil 0 true (.tmp 75), none⟩,
  ⟨some 77, .mv (.tmp 14), none⟩,
  ⟨some 78, .binB true (.tmp 76) (.tmp 77), none⟩]
def o4_23 : List AOper := [⟨some 8, .mv (.const (.bool false)), none⟩]
def o4_27 : List AOper := [⟨some 15, .mv (.const (.slice none 0 0)), none⟩]
def o4_29 : List AOper := [⟨some 16, .mv (.const (.slice none 0 0)), none⟩]
def o4_32 : List AOper := [⟨some 17, .mv (.const (.int .i64 0)), none⟩]
def o4_37 : List AOper := [⟨some 79, .mv (.tmp 17), none⟩,
  ⟨some 80, .mv (.tmp 2), none⟩,
  ⟨some 81, .len (.tmp 80), none⟩,
  ⟨some 82, .bin .lss (.tmp 79) (.tmp 81), none⟩]
def o4_44 : List (AOper × Option Nat) := [(⟨some 86, .load true [.int .i64, .int .i64] (.tmp 4), none⟩, none),
  (⟨some 87, .mv (.tmp 2), none⟩, none),
  (⟨some 88, .mv (.tmp 17), none⟩, none),
  (⟨some 89, .indexAddr 2 (.tmp 87) (.tmp 88), none⟩, none),
  (⟨some 90, .fieldAddr 0 (.tmp 89), none⟩, none),
  (⟨some 91, .load false [.int .i64] (.tmp 90), none⟩, none),
  (⟨some 92, .mv (.tmp 2), none⟩, none),
  (⟨some 93, .mv (.tmp 17), none⟩, none),
  (⟨some 94, .indexAddr 2 (.tmp 92) (.tmp 93), none⟩, none),
  (⟨some 95, .fieldAddr 1 (.tmp 94), none⟩, none),
  (⟨some 96, .load false [.slice] (.tmp 95), none⟩, none),
  (⟨some 97, .call false (.func 25) [.tmp 86, .tmp 91, .tmp 96] [(true, [.int .i64, .slice, .int .i64, .bool, .int .u64, .int .i64]), (false, [.bool])] false, none⟩, none),
  (⟨some 85, .mv (.tmp 97), none⟩, none),
  (⟨some 98, .extract (.tmp 85) 0, none⟩, none),
  (⟨some 99, .extract (.tmp 85) 1, none⟩, none),
  (⟨some 18, .nilCheck (.tmp 18), none⟩, none),
  (⟨none, .store 6 (.tmp 18) (.tmp 98), none⟩, none),
  (⟨some 19, .mv (.tmp 99), none⟩, none)]
def f4_44 : List AOper := [⟨some 18, .alloc [.int .i64 0, .slice none 0 0, .int .i64 0, .bool false, .int .u64 0, .int .i64 0], none⟩]
def o4_46 : List AOper := [⟨some 100, .mv (.tmp 19), none⟩]
def o4_49 : List AOper := [⟨some 101, .mv (.tmp 15), none⟩,
  ⟨some 102, .load true [.int .i64, .slice, .int .i64, .bool, .int .u64, .int .i64] (.tmp 18), none⟩,
  ⟨some 103, .buildSlice 6 1 [.int .i64 0, .slice none 0 0, .int .i64 0, .bool false, .int .u64 0, .int .i64 0] [(0, 6, .tmp 102)], none⟩,
  ⟨some 104, .append 6 64 (.tmp 101) (.tmp 103), none⟩,
  ⟨some 15, .mv (.tmp 104), none⟩]
def o4_50 : List (AOper × Option Nat) := [(⟨some 105, .mv (.tmp 16), none⟩, none),
  (⟨some 106, .load true [.int .i64, .int .i64] (.tmp 4), none⟩, none),
  (⟨some 107, .call true (.func 12) [.tmp 106] [(true, [.int .i64, .int .i64])] true, none⟩, none),
  (⟨some 108, .mv (.tmp 2), none⟩, none),
  (⟨some 109, .mv (.tmp 17), none⟩, none),
  (⟨some 110, .indexAddr 2 (.tmp 108) (.tmp 109), none⟩, none),
  (⟨some 111, .fieldAddr 0 (.tmp 110), none⟩, none),
  (⟨some 112, .load false [.int .i64] (.tmp 111), none⟩, none),
  (⟨some 113, .mv (.tmp 2), none⟩, none),
  (⟨some 114, .mv (.tmp 17), none⟩, none),
  (⟨some 115, .indexAddr 2 (.tmp 113) (.tmp 114), none⟩, none),
  (⟨some 116, .fieldAddr 1 (.tmp 115), none⟩, none),
  (⟨some 117, .load false [.slice] (.tmp 116), none⟩, none),
  (⟨some 118, .call false (.func 14) [.tmp 117] [(false, [.slice])] true, none⟩, none),
  (⟨some 119, .call false (.func 13) [.tmp 107, .tmp 112, .tmp 118] [(false, [.ptr])] true, none⟩, none),
  (⟨some 120, .buildSlice 1 1 [.pointer none] [(0, 1, .tmp 119)], none⟩, none),
  (⟨some 121, .append 1 8 (.tmp 105) (.tmp 120), none⟩, none),
  (⟨some 16, .mv (.tmp 121), none⟩, none)]
def c4_45 : ACode := .seq (.ops o4_46) (.cond (.tmp 100) (.seq (.ops o4_49) (.draw [] 0 o4_50 [(7, 13)])) (.skip))
def o4_52 : List AOper := [⟨some 83, .mv (.tmp 17), none⟩,
  ⟨some 84, .bin .add (.tmp 83) (.const (.int .i64 1)), none⟩,
  ⟨some 17, .mv (.tmp 84), none⟩]
def c4_52 : ACode := .ops o4_52
def b4_34 : ACode := .post (.seq (.seq (.ops o4_37) (.cond (.tmp 82) (.skip) (.exit 0))) (.seq (.block 1 (.seq (.draw f4_44 0 o4_44 [(15, 11)]) (.clear zl7 c4_45))) (.clear zl8 c4_52))) zl8
def o4_55 : List AOper := [⟨some 20, .mv (.const (.int .i64 0)), none⟩]
def o4_60 : List AOper := [⟨some 122, .mv (.tmp 20), none⟩,
  ⟨some 123, .mv (.tmp 3), none⟩,
  ⟨some 124, .len (.tmp 123), none⟩,
  ⟨some 125, .bin .lss (.tmp 122) (.tmp 124), none⟩]
def o4_67 : List AOper := [⟨some 128, .mv (.tmp 3), none⟩,
  ⟨some 129, .mv (.tmp 20), none⟩,
  ⟨some 130, .indexAddr 1 (.tmp 128) (.tmp 129), none⟩,
  ⟨some 131, .load false [.int .u8] (.tmp 130), none⟩,
  ⟨some 132, .conv .i64 (.tmp 131), none⟩,
  ⟨some 133, .mv (.tmp 16), none⟩,
  ⟨some 134, .len (.tmp 133), none⟩,
  ⟨some 135, .bin .add (.tmp 134) (.const (.int .i64 1)), none⟩,
  ⟨some 136, .bin .rem (.tmp 132) (.tmp 135), none⟩,
  ⟨some 21, .mv (.tmp 136), none⟩]
def o4_70 : List AOper := [⟨some 137, .mv (.tmp 21), none⟩,
  ⟨some 138, .bin .gtr (.tmp 137) (.const (.int .i64 0)), none⟩]
def o4_73 : List AOper := [⟨some 139, .mv (.tmp 16), none⟩,
  ⟨some 140, .mv (.tmp 21), none⟩,
  ⟨some 141, .bin .sub (.tmp 140) (.const (.int .i64 1)), none⟩,
  ⟨some 142, .indexAddr 1 (.tmp 139) (.tmp 141), none⟩,
  ⟨some 143, .load false [.ptr] (.tmp 142), none⟩,
  ⟨some 144, .mv (.tmp 11), none⟩,
  ⟨some 145, .call false (.func 18) [.tmp 143, .tmp 144] [(false, [.bool])] true, none⟩]
def o4_75 : List AOper := [⟨some 146, .mv (.tmp 15), none⟩,
  ⟨some 147, .mv (.tmp 21), none⟩,
  ⟨some 148, .bin .sub (.tmp 147) (.const (.int .i64 1)), none⟩,
  ⟨some 149, .indexAddr 6 (.tmp 146) (.tmp 148), none⟩,
  ⟨some 150, .call false (.func 26) [.tmp 149, .tmp 9] [(false, [.bool])] true, none⟩]
def c4_74 : ACode := .seq (.ops o4_75) (.exit 3)
def o4_79 : List (AOper × Option Nat) := [(⟨some 151, .mv (.tmp 12), none⟩, none),
  (⟨some 152, .mv (.tmp 11), none⟩, none),
  (⟨some 153, .call false (.func 17) [.tmp 151, .tmp 152] [(false, [.bool])] true, none⟩, none),
  (⟨some 154, .call false (.func 27) [.tmp 13, .tmp 9] [(false, [.bool])] true, none⟩, none),
  (⟨some 155, .binB true (.tmp 153) (.tmp 154), none⟩, none),
  (⟨some 156, .mv (.tmp 155), none⟩, none),
  (⟨some 157, .mv (.tmp 12), some (156, false)⟩, none),
  (⟨some 158, .call false (.func 15) [.tmp 157] [(false, [.bool])] true, some (156, false)⟩, none),
  (⟨some 159, .fieldAddr 5 (.tmp 13), some (156, false)⟩, none),
  (⟨some 160, .load false [.int .i64] (.tmp 159), some (156, false)⟩, none),
  (⟨some 161, .bin .neq (.tmp 160) (.const (.int .i64 13)), some (156, false)⟩, none),
  (⟨some 162, .binB true (.tmp 158) (.tmp 161), some (156, false)⟩, none),
  (⟨some 163, .pick (.tmp 156) (.const (.bool true)) (.tmp 162), none⟩, none),
  (⟨some 164, .mv (.tmp 163), none⟩, none),
  (⟨some 165, .mv (.tmp 12), some (164, false)⟩, none),
  (⟨some 166, .call false (.func 21) [.tmp 165] [(false, [.int .i64])] true, some (164, false)⟩, none),
  (⟨some 167, .fieldAddr 3 (.tmp 13), some (164, false)⟩, none),
  (⟨some 168, .load false [.int .i64] (.tmp 167), some (164, false)⟩, none),
  (⟨some 169, .bin .neq (.tmp 166) (.tmp 168), some (164, false)⟩, none),
  (⟨some 170, .pick (.tmp 164) (.const (.bool true)) (.tmp 169), none⟩, none)]
def o4_82 : List AOper := [⟨some 8, .mv (.const (.bool false)), none⟩]
def c4_80 : ACode := .cond (.tmp 170) (.seq (.ops o4_82) (.ret)) (.skip)
def o4_85 : List AOper := [⟨some 126, .mv (.tmp 20), none⟩,
  ⟨some 127, .bin .add (.tmp 126) (.const (.int .i64 1)), none⟩,
  ⟨some 20, .mv (.tmp 127), none⟩]
def c4_85 : ACode := .ops o4_85
def b4_57 : ACode := .post (.seq (.seq (.ops o4_60) (.cond (.tmp 125) (.skip) (.exit 2))) (.seq (.block 3 (.seq (.ops o4_67) (.seq (.seq (.ops o4_70) (.cond (.tmp 138) (.seq (.ops o4_73) (.clear zl9 c4_74)) (.skip))) (.seq (.draw [] 0 o4_79 [(9, 7), (17, 15)]) (.clear zl10 c4_80))))) (.clear zl11 c4_85))) zl11
def o4_87 : List AOper := [⟨some 172, .mv (.tmp 12), none⟩,
  ⟨some 173, .call false (.func 20) [.tmp 172] [(false, [.slice]), (false, [.int .i64])] false, none⟩,
  ⟨some 171, .mv (.tmp 173), none⟩,
  ⟨some 174, .extract (.tmp 171) 0, none⟩,
  ⟨some 175, .extract (.tmp 171) 1, none⟩,
  ⟨some 22, .mv (.tmp 174), none⟩,
  ⟨some 23, .mv (.tmp 175), none⟩]
def o4_89 : List AOper := [⟨some 177, .call false (.func 28) [.tmp 13] [(false, [.slice]), (false, [.int .i64])] false, none⟩,
  ⟨some 176, .mv (.tmp 177), none⟩,
  ⟨some 178, .extract (.tmp 176) 0, none⟩,
  ⟨some 179, .extract (.tmp 176) 1, none⟩,
  ⟨some 24, .mv (.tmp 178), none⟩,
  ⟨some 25, .mv (.tmp 179), none⟩]
def o4_91 : List AOper := [⟨some 26, .mv (.const (.pointer none)), none⟩]
def o4_93 : List AOper := [⟨some 180, .build [.int .i64 0, .int .i64 0, .int .i64 0, .int .i64 0, .int .i64 0, .slice none 0 0, .slice none 0 0, .slice none 0 0, .int .i64 0, .bool false] [], none⟩,
  ⟨some 181, .box (.tmp 180), none⟩,
  ⟨some 27, .mv (.tmp 181), none⟩]
def o4_95 : List AOper := [⟨some 183, .mv (.tmp 26), none⟩,
  ⟨some 184, .call false (.func 20) [.tmp 183] [(false, [.slice]), (false, [.int .i64])] false, none⟩,
  ⟨some 182, .mv (.tmp 184), none⟩,
  ⟨some 185, .extract (.tmp 182) 0, none⟩,
  ⟨some 186, .extract (.tmp 182) 1, none⟩,
  ⟨some 28, .mv (.tmp 185), none⟩,
  ⟨some 29, .mv (.tmp 186), none⟩]
def o4_97 : List AOper := [⟨some 188, .mv (.tmp 27), none⟩,
  ⟨some 189, .call false (.func 20) [.tmp 188] [(false, [.slice]), (false, [.int .i64])] false, none⟩,
  ⟨some 187, .mv (.tmp 189), none⟩,
  ⟨some 190, .extract (.tmp 187) 0, none⟩,
  ⟨some 191, .extract (.tmp 187) 1, none⟩,
  ⟨some 30, .mv (.tmp 190), none⟩,
  ⟨some 31, .mv (.tmp 191), none⟩]
def o4_100 : List AOper := [⟨some 192, .mv (.tmp 29), none⟩,
  ⟨some 193, .bin .neq (.tmp 192) (.const (.int .i64 13)), none⟩,
  ⟨some 194, .mv (.tmp 193), none⟩,
  ⟨some 195, .mv (.tmp 31), some (194, false)⟩,
  ⟨some 196, .bin .neq (.tmp 195) (.const (.int .i64 13)), some (194, false)⟩,
  ⟨some 197, .pick (.tmp 194) (.const (.bool true)) (.tmp 196), none⟩,
  ⟨some 198, .mv (.tmp 197), none⟩,
  ⟨some 199, .mv (.tmp 26), some (198, false)⟩,
  ⟨some 200, .call false (.func 15) [.tmp 199] [(false, [.bool])] true, some (198, false)⟩,
  ⟨some 201, .pick (.tmp 198) (.const (.bool true)) (.tmp 200), none⟩,
  ⟨some 202, .mv (.tmp 201), none⟩,
  ⟨some 203, .mv (.tmp 27), some (202, false)⟩,
  ⟨some 204, .call false (.func 15) [.tmp 203] [(false, [.bool])] true, some (202, false)⟩,
  ⟨some 205, .pick (.tmp 202) (.const (.bool true)) (.tmp 204), none⟩,
  ⟨some 206, .mv (.tmp 205), none⟩,
  ⟨some 207, .mv (.tmp 27), some (206, false)⟩,
  ⟨some 208, .mv (.tmp 11), some (206, false)⟩,
  ⟨some 209, .call false (.func 17) [.tmp 207, .tmp 208] [(false, [.bool])] true, some (206, false)⟩,
  ⟨some 210, .pick (.tmp 206) (.const (.bool true)) (.tmp 209), none⟩,
  ⟨some 211, .mv (.tmp 210), none⟩,
  ⟨some 212, .mv (.tmp 26), some (211, false)⟩,
  ⟨some 213, .mv (.tmp 11), some (211, false)⟩,
  ⟨some 214, .call false (.func 17) [.tmp 212, .tmp 213] [(false, [.bool])] true, some (211, false)⟩,
  ⟨some 215, .pick (.tmp 211) (.const (.bool true)) (.tmp 214), none⟩,
  ⟨some 216, .mv (.tmp 215), none⟩,
  ⟨some 217, .mv (.tmp 26), some (216, false)⟩,
  ⟨some 218, .call false (.func 21) [.tmp 217] [(false, [.int .i64])] true, some (216, false)⟩,
  ⟨some 219, .mv (.tmp 27), some (216, false)⟩,
  ⟨some 220, .call false (.func 21) [.tmp 219] [(false, [.int .i64])] true, some (216, false)⟩,
  ⟨some 221, .bin .add (.tmp 218) (.tmp 220), some (216, false)⟩,
  ⟨some 222, .bin .neq (.tmp 221) (.const (.int .i64 0)), some (216, false)⟩,
  ⟨some 223, .pick (.tmp 216) (.const (.bool true)) (.tmp 222), none⟩]
def o4_103 : List AOper := [⟨some 8, .mv (.const (.bool false)), none⟩]
def c4_101 : ACode := .cond (.tmp 223) (.seq (.ops o4_103) (.ret)) (.skip)
def o4_107 : List AOper := [⟨some 32, .mv (.const (.int .i64 0)), none⟩]
def o4_110 : List AOper := [⟨some 224, .load true [.int .i64, .int .i64] (.tmp 4), none⟩,
  ⟨some 225, .call true (.func 6) [.tmp 224] [(false, [.bool])] true, none⟩]
def o4_112 : List AOper := [⟨some 226, .fieldAddr 1 (.tmp 4), none⟩,
  ⟨some 227, .load false [.int .i64] (.tmp 226), none⟩,
  ⟨some 228, .bin .mul (.const (.int .i64 2)) (.tmp 227), none⟩,
  ⟨some 229, .fieldAddr 0 (.tmp 4), none⟩,
  ⟨some 230, .load false [.int .i64] (.tmp 229), none⟩,
  ⟨some 231, .bin .mul (.const (.int .i64 3)) (.tmp 230), none⟩,
  ⟨some 232, .bin .add (.tmp 228) (.tmp 231), none⟩,
  ⟨some 32, .mv (.tmp 232), none⟩]
def o4_115 : List (AOper × Option Nat) := [(⟨some 233, .mv (.tmp 22), none⟩, none),
  (⟨some 234, .mv (.tmp 24), none⟩, none),
  (⟨some 235, .call false (.func 29) [.tmp 233, .tmp 234] [(false, [.bool])] true, none⟩, none),
  (⟨some 236, .mv (.tmp 235), none⟩, none),
  (⟨some 237, .mv (.tmp 23), some (236, true)⟩, none),
  (⟨some 238, .mv (.tmp 25), some (236, true)⟩, none),
  (⟨some 239, .bin .eql (.tmp 237) (.tmp 238), some (236, true)⟩, none),
  (⟨some 240, .pick (.tmp 236) (.tmp 239) (.const (.bool false)), none⟩, none),
  (⟨some 241, .mv (.tmp 240), none⟩, none),
  (⟨some 242, .load true [.int .i64, .int .i64] (.tmp 4), some (241, true)⟩, none),
  (⟨some 243, .call true (.func 12) [.tmp 242] [(true, [.int .i64, .int .i64])] true, some (241, true)⟩, none),
  (⟨some 244, .call true (.func 30) [.tmp 243] [(false, [.int .i64])] true, some (241, true)⟩, none),
  (⟨some 245, .mv (.tmp 32), some (241, true)⟩, none),
  (⟨some 246, .bin .eql (.tmp 244) (.tmp 245), some (241, true)⟩, none),
  (⟨some 247, .pick (.tmp 241) (.tmp 246) (.const (.bool false)), none⟩, none),
  (⟨some 248, .mv (.tmp 247), none⟩, none),
  (⟨some 249, .mv (.tmp 11), some (248, true)⟩, none),
  (⟨some 250, .call false (.func 31) [.tmp 249] [(false, [.int .i64])] true, some (248, true)⟩, none),
  (⟨some 251, .fieldAddr 1 (.tmp 9), some (248, true)⟩, none),
  (⟨some 252, .load false [.int .i64] (.tmp 251), some (248, true)⟩, none),
  (⟨some 253, .bin .eql (.tmp 250) (.tmp 252), some (248, true)⟩, none),
  (⟨some 254, .pick (.tmp 248) (.tmp 253) (.const (.bool false)), none⟩, none),
  (⟨some 255, .mv (.tmp 254), none⟩, none),
  (⟨some 256, .call true (.func 8) [] [(false, [.bool])] true, some (255, true)⟩, none),
  (⟨some 257, .pick (.tmp 255) (.tmp 256) (.const (.bool false)), none⟩, none),
  (⟨some 8, .mv (.tmp 257), none⟩, none)]
def c4_114 : ACode := .seq (.draw [] 0 o4_115 [(19, 17)]) (.ret)
def c4_96 : ACode := .seq (.ops o4_97) (.seq (.seq (.ops o4_100) (.clear zl12 c4_101)) (.seq (.ops o4_107) (.seq (.seq (.ops o4_110) (.cond (.tmp 225) (.ops o4_112) (.skip))) (.clear zl13 c4_114))))
def c4_86 : ACode := .seq (.ops o4_87) (.seq (.ops o4_89) (.seq (.ops o4_91) (.seq (.ops o4_93) (.seq (.ops o4_95) (.clear zl14 c4_96)))))
def c4_53 : ACode := .seq (.seq (.ops o4_55) (.block 2 (.clear zl11 (.loop b4_57)))) (.clear zl15 c4_86)
def c4_18 : ACode := .seq (.seq (.ops o4_20) (.cond (.tmp 78) (.seq (.ops o4_23) (.ret)) (.skip))) (.seq (.ops o4_27) (.seq (.ops o4_29) (.seq (.seq (.ops o4_32) (.block 0 (.clear zl8 (.loop b4_34)))) (.clear zl16 c4_53))))
def c4_0 : ACode := .seq (.ops o4_1) (.seq (.seq (.ops o4_4) (.clear zl17 c4_5)) (.seq (.ops o4_11) (.seq (.ops o4_13) (.seq (.ops o4_15) (.seq (.ops o4_17) (.clear zl18 c4_18))))))
def a4 : AFun := ⟨258, [.tmp 8], c4_0⟩
theorem ok4 : OkFun Try.prog 4 a4 := ⟨Try.f4, Try.f4.body.getD .skip, Try.func4, by kernel_rfl, by kernel_rfl, by kernel_rfl, by kernel_rfl, by kernel_rfl⟩
/-! #### skylightlaw34.PeekStill -/
def o5_1 : List AOper := [⟨some 4, .box (.tmp 0), none⟩,
  ⟨some 8, .mv (.const (.bool false)), none⟩]
def o5_4 : List AOper := [⟨some 20, .load true [.int .i64, .int .i64] (.tmp 4), none⟩,
  ⟨some 21, .call true (.func 6) [.tmp 20] [(false, [.bool])] true, none⟩,
  ⟨some 22, .un .not (.tmp 21), none⟩,
  ⟨some 23, .mv (.tmp 22), none⟩,
  ⟨some 24, .fieldAddr 0 (.tmp 4), some (23, false)⟩,
  ⟨some 25, .load false [.int .i64] (.tmp 24), some (23, false)⟩,
  ⟨some 26, .bin .gtr (.tmp 25) (.const (.int .i64 10)), some (23, false)⟩,
  ⟨some 27, .pick (.tmp 23) (.const (.bool true)) (.tmp 26), none⟩,
  ⟨some 28, .mv (.tmp 27), none⟩,
  ⟨some 29, .fieldAddr 1 (.tmp 4), some (28, false)⟩,
  ⟨some 30, .load false [.int .i64] (.tmp 29), some (28, false)⟩,
  ⟨some 31, .bin .gtr (.tmp 30) (.const (.int .i64 4)), some (28, false)⟩,
  ⟨some 32, .pick (.tmp 28) (.const (.bool true)) (.tmp 31), none⟩,
  ⟨some 33, .mv (.tmp 32), none⟩,
  ⟨some 34, .mv (.tmp 2), some (33, false)⟩,
  ⟨some 35, .call false (.func 7) [.tmp 34] [(false, [.bool])] true, some (33, false)⟩,
  ⟨some 36, .un .not (.tmp 35), some (33, false)⟩,
  ⟨some 37, .pick (.tmp 33) (.const (.bool true)) (.tmp 36), none⟩]
def o5_7 : List AOper := [⟨some 38, .call true (.func 8) [] [(false, [.bool])] true, none⟩,
  ⟨some 8, .mv (.tmp 38), none⟩]
def o5_11 : List AOper := [⟨some 39, .load true [.int .i64, .int .i64] (.tmp 4), none⟩,
  ⟨some 40, .call true (.func 10) [.tmp 39] [(false, [.int .i64])] true, none⟩,
  ⟨some 41, .call false (.func 9) [.tmp 40] [(false, [.ptr])] true, none⟩,
  ⟨some 9, .mv (.tmp 41), none⟩]
def o5_13 : List AOper := [⟨some 10, .mv (.const (.bool false)), none⟩]
def o5_16 : List AOper := [⟨some 11, .mv (.const (.int .i64 0)), none⟩]
def o5_21 : List AOper := [⟨some 42, .mv (.tmp 11), none⟩,
  ⟨some 43, .mv (.tmp 2), none⟩,
  ⟨some 44, .len (.tmp 43), none⟩,
  ⟨some 45, .bin .lss (.tmp 42) (.tmp 44), none⟩]
def o5_28 : List (AOper × Option Nat) := [(⟨some 48, .load true [.int .i64, .int .i64] (.tmp 4), none⟩, none),
  (⟨some 49, .call true (.func 12) [.tmp 48] [(true, [.int .i64, .int .i64])] true, none⟩, none),
  (⟨some 50, .mv (.tmp 2), none⟩, none),
  (⟨some 51, .mv (.tmp 11), none⟩, none),
  (⟨some 52, .indexAddr 2 (.tmp 50) (.tmp 51), none⟩, none),
  (⟨some 53, .fieldAddr 0 (.tmp 52), none⟩, none),
  (⟨some 54, .load false [.int .i64] (.tmp 53), none⟩, none),
  (⟨some 55, .mv (.tmp 2), none⟩, none),
  (⟨some 56, .mv (.tmp 11), none⟩, none),
  (⟨some 57, .indexAddr 2 (.tmp 55) (.tmp 56), none⟩, none),
  (⟨some 58, .fieldAddr 1 (.tmp 57), none⟩, none),
  (⟨some 59, .load false [.slice] (.tmp 58), none⟩, none),
  (⟨some 60, .call false (.func 14) [.tmp 59] [(false, [.slice])] true, none⟩, none),
  (⟨some 61, .call false (.func 13) [.tmp 49, .tmp 54, .tmp 60] [(false, [.ptr])] true, none⟩, none),
  (⟨some 12, .mv (.tmp 61), none⟩, none)]
def o5_30 : List AOper := [⟨some 13, .mv (.const (.int .i64 1000)), none⟩]
def o5_33 : List AOper := [⟨some 62, .mv (.tmp 11), none⟩,
  ⟨some 63, .mv (.tmp 2), none⟩,
  ⟨some 64, .len (.tmp 63), none⟩,
  ⟨some 65, .bin .sub (.tmp 64) (.const (.int .i64 1)), none⟩,
  ⟨some 66, .bin .eql (.tmp 62) (.tmp 65), none⟩]
def o5_35 : List AOper := [⟨some 67, .mv (.tmp 3), none⟩,
  ⟨some 68, .conv .i64 (.tmp 67), none⟩,
  ⟨some 13, .mv (.tmp 68), none⟩]
def o5_39 : List AOper := [⟨some 14, .mv (.const (.int .i64 0)), none⟩]
def o5_44 : List AOper := [⟨some 69, .mv (.tmp 14), none⟩,
  ⟨some 70, .mv (.tmp 13), none⟩,
  ⟨some 71, .bin .lss (.tmp 69) (.tmp 70), none⟩,
  ⟨some 72, .mv (.tmp 71), none⟩,
  ⟨some 73, .mv (.tmp 12), some (72, true)⟩,
  ⟨some 74, .mv (.tmp 9), some (72, true)⟩,
  ⟨some 75, .call false (.func 18) [.tmp 73, .tmp 74] [(false, [.bool])] true, some (72, true)⟩,
  ⟨some 76, .pick (.tmp 72) (.tmp 75) (.const (.bool false)), none⟩]
def o5_51 : List AOper := [⟨some 77, .mv (.tmp 14), none⟩,
  ⟨some 78, .bin .add (.tmp 77) (.const (.int .i64 1)), none⟩,
  ⟨some 14, .mv (.tmp 78), none⟩]
def c5_51 : ACode := .ops o5_51
def b5_41 : ACode := .post (.seq (.seq (.ops o5_44) (.cond (.tmp 76) (.skip) (.exit 2))) (.seq (.block 3 (.skip)) (.clear zl19 c5_51))) zl19
def o5_52 : List AOper := [⟨some 79, .mv (.tmp 10), none⟩,
  ⟨some 80, .mv (.tmp 79), none⟩,
  ⟨some 81, .mv (.tmp 12), some (80, false)⟩,
  ⟨some 82, .call false (.func 32) [.tmp 81] [(false, [.bool])] true, some (80, false)⟩,
  ⟨some 83, .mv (.tmp 82), some (80, false)⟩,
  ⟨some 84, .mv (.tmp 12), some (83, true)⟩,
  ⟨some 85, .call false (.func 33) [.tmp 84] [(false, [.bool])] true, some (83, true)⟩,
  ⟨some 86, .un .not (.tmp 85), some (83, true)⟩,
  ⟨some 87, .pick (.tmp 83) (.tmp 86) (.const (.bool false)), some (80, false)⟩,
  ⟨some 88, .pick (.tmp 80) (.const (.bool true)) (.tmp 87), none⟩,
  ⟨some 10, .mv (.tmp 88), none⟩]
def c5_52 : ACode := .ops o5_52
def c5_37 : ACode := .seq (.seq (.ops o5_39) (.block 2 (.clear zl19 (.loop b5_41)))) (.clear zl20 c5_52)
def c5_29 : ACode := .seq (.ops o5_30) (.seq (.seq (.ops o5_33) (.cond (.tmp 66) (.ops o5_35) (.skip))) (.clear zl21 c5_37))
def o5_53 : List AOper := [⟨some 46, .mv (.tmp 11), none⟩,
  ⟨some 47, .bin .add (.tmp 46) (.const (.int .i64 1)), none⟩,
  ⟨some 11, .mv (.tmp 47), none⟩]
def c5_53 : ACode := .ops o5_53
def b5_18 : ACode := .post (.seq (.seq (.ops o5_21) (.cond (.tmp 45) (.skip) (.exit 0))) (.seq (.block 1 (.seq (.draw [] 0 o5_28 [(6, 12)]) (.clear zl20 c5_29))) (.clear zl22 c5_53))) zl22
def o5_55 : List AOper := [⟨some 89, .mv (.tmp 1), none⟩,
  ⟨some 90, .conv .i64 (.tmp 89), none⟩,
  ⟨some 91, .bin .rem (.tmp 90) (.const (.int .i64 20)), none⟩,
  ⟨some 92, .bin .add (.const (.int .i64 1)) (.tmp 91), none⟩,
  ⟨some 15, .mv (.tmp 92), none⟩]
def o5_57 : List AOper := [⟨some 93, .load true [.int .i64, .int .i64] (.tmp 4), none⟩,
  ⟨some 94, .call true (.func 12) [.tmp 93] [(true, [.int .i64, .int .i64])] true, none⟩,
  ⟨some 95, .mv (.tmp 15), none⟩,
  ⟨some 96, .call false (.func 11) [.tmp 94, .tmp 95] [(false, [.ptr])] true, none⟩,
  ⟨some 16, .mv (.tmp 96), none⟩]
def o5_59 : List AOper := [⟨some 17, .mv (.const (.int .i64 0)), none⟩]
def o5_65 : List AOper := [⟨some 97, .mv (.tmp 17), none⟩,
  ⟨some 98, .bin .lss (.tmp 97) (.const (.int .i64 2000)), none⟩,
  ⟨some 99, .mv (.tmp 98), none⟩,
  ⟨some 100, .mv (.tmp 16), some (99, true)⟩,
  ⟨some 101, .mv (.tmp 9), some (99, true)⟩,
  ⟨some 102, .call false (.func 17) [.tmp 100, .tmp 101] [(false, [.bool])] true, some (99, true)⟩,
  ⟨some 103, .pick (.tmp 99) (.tmp 102) (.const (.bool false)), none⟩]
def o5_70 : List AOper := [⟨some 104, .mv (.tmp 17), none⟩,
  ⟨some 105, .bin .add (.tmp 104) (.const (.int .i64 1)), none⟩,
  ⟨some 17, .mv (.tmp 105), none⟩]
def b5_62 : ACode := .post (.seq (.seq (.ops o5_65) (.cond (.tmp 103) (.skip) (.exit 4))) (.block 5 (.ops o5_70))) zl23
def o5_72 : List AOper := [⟨some 107, .mv (.tmp 16), none⟩,
  ⟨some 108, .call false (.func 20) [.tmp 107] [(false, [.slice]), (false, [.int .i64])] false, none⟩,
  ⟨some 106, .mv (.tmp 108), none⟩,
  ⟨some 109, .extract (.tmp 106) 0, none⟩,
  ⟨some 110, .extract (.tmp 106) 1, none⟩,
  ⟨some 18, .mv (.tmp 109), none⟩,
  ⟨some 19, .mv (.tmp 110), none⟩]
def o5_75 : List AOper := [⟨some 111, .mv (.tmp 10), none⟩]
def o5_78 : List AOper := [⟨some 112, .mv (.tmp 19), none⟩,
  ⟨some 113, .bin .eql (.tmp 112) (.const (.int .i64 12)), none⟩,
  ⟨some 114, .mv (.tmp 113), none⟩,
  ⟨some 115, .mv (.tmp 17), some (114, true)⟩,
  ⟨some 116, .mv (.tmp 15), some (114, true)⟩,
  ⟨some 117, .load true [.int .i64, .int .i64] (.tmp 4), some (114, true)⟩,
  ⟨some 118, .call true (.func 12) [.tmp 117] [(true, [.int .i64, .int .i64])] true, some (114, true)⟩,
  ⟨some 119, .call true (.func 30) [.tmp 118] [(false, [.int .i64])] true, some (114, true)⟩,
  ⟨some 120, .bin .mul (.tmp 116) (.tmp 119), some (114, true)⟩,
  ⟨some 121, .bin .eql (.tmp 115) (.tmp 120), some (114, true)⟩,
  ⟨some 122, .pick (.tmp 114) (.tmp 121) (.const (.bool false)), none⟩,
  ⟨some 123, .mv (.tmp 122), none⟩,
  ⟨some 124, .mv (.tmp 18), some (123, true)⟩,
  ⟨some 125, .len (.tmp 124), some (123, true)⟩,
  ⟨some 126, .bin .eql (.tmp 125) (.const (.int .i64 0)), some (123, true)⟩,
  ⟨some 127, .pick (.tmp 123) (.tmp 126) (.const (.bool false)), none⟩,
  ⟨some 128, .mv (.tmp 127), none⟩,
  ⟨some 129, .call true (.func 8) [] [(false, [.bool])] true, some (128, true)⟩,
  ⟨some 130, .pick (.tmp 128) (.tmp 129) (.const (.bool false)), none⟩,
  ⟨some 8, .mv (.tmp 130), none⟩]
def o5_82 : List AOper := [⟨some 131, .mv (.tmp 19), none⟩,
  ⟨some 132, .bin .eql (.tmp 131) (.const (.int .i64 0)), none⟩,
  ⟨some 133, .mv (.tmp 132), none⟩,
  ⟨some 134, .mv (.tmp 17), some (133, true)⟩,
  ⟨some 135, .load true [.int .i64, .int .i64] (.tmp 4), some (133, true)⟩,
  ⟨some 136, .call true (.func 12) [.tmp 135] [(true, [.int .i64, .int .i64])] true, some (133, true)⟩,
  ⟨some 137, .call true (.func 30) [.tmp 136] [(false, [.int .i64])] true, some (133, true)⟩,
  ⟨some 138, .bin .eql (.tmp 134) (.tmp 137), some (133, true)⟩,
  ⟨some 139, .pick (.tmp 133) (.tmp 138) (.const (.bool false)), none⟩,
  ⟨some 140, .mv (.tmp 139), none⟩,
  ⟨some 141, .mv (.tmp 18), some (140, true)⟩,
  ⟨some 142, .load true [.int .i64, .int .i64] (.tmp 4), some (140, true)⟩,
  ⟨some 143, .call true (.func 12) [.tmp 142] [(true, [.int .i64, .int .i64])] true, some (140, true)⟩,
  ⟨some 144, .mv (.tmp 9), some (140, true)⟩,
  ⟨some 145, .call false (.func 34) [.tmp 143, .tmp 144] [(false, [.slice])] true, some (140, true)⟩,
  ⟨some 146, .call false (.func 29) [.tmp 141, .tmp 145] [(false, [.bool])] true, some (140, true)⟩,
  ⟨some 147, .pick (.tmp 140) (.tmp 146) (.const (.bool false)), none⟩,
  ⟨some 148, .mv (.tmp 147), none⟩,
  ⟨some 149, .mv (.tmp 16), some (148, true)⟩,
  ⟨some 150, .call false (.func 21) [.tmp 149] [(false, [.int .i64])] true, some (148, true)⟩,
  ⟨some 151, .bin .eql (.tmp 150) (.const (.int .i64 1)), some (148, true)⟩,
  ⟨some 152, .pick (.tmp 148) (.tmp 151) (.const (.bool false)), none⟩,
  ⟨some 153, .mv (.tmp 152), none⟩,
  ⟨some 154, .call true (.func 8) [] [(false, [.bool])] true, some (153, true)⟩,
  ⟨some 155, .pick (.tmp 153) (.tmp 154) (.const (.bool false)), none⟩,
  ⟨some 8, .mv (.tmp 155), none⟩]
def c5_71 : ACode := .seq (.ops o5_72) (.seq (.seq (.ops o5_75) (.cond (.tmp 111) (.seq (.ops o5_78) (.ret)) (.skip))) (.seq (.ops o5_82) (.ret)))
def c5_54 : ACode := .seq (.ops o5_55) (.seq (.ops o5_57) (.seq (.ops o5_59) (.seq (.block 4 (.clear zl23 (.loop b5_62))) (.clear zl23 c5_71))))
def c5_0 : ACode := .seq (.ops o5_1) (.seq (.seq (.ops o5_4) (.cond (.tmp 37) (.seq (.ops o5_7) (.ret)) (.skip))) (.seq (.ops o5_11) (.seq (.ops o5_13) (.seq (.seq (.ops o5_16) (.block 0 (.clear zl22 (.loop b5_18)))) (.clear zl24 c5_54)))))
def a5 : AFun := ⟨156, [.tmp 8], c5_0⟩
theorem ok5 : OkFun Try.prog 5 a5 := ⟨Try.f5, Try.f5.body.getD .skip, Try.func5, by kernel_rfl, by kernel_rfl, by kernel_rfl, by kernel_rfl, by kernel_rfl⟩
/-! #### skylightref31.Right -/
def o6_1 : List AOper := [⟨some 1, .box (.tmp 0), none⟩,
  ⟨some 2, .mv (.const (.bool false)), none⟩]
def o6_3 : List AOper := [⟨some 3, .fieldAddr 0 (.tmp 1), none⟩,
  ⟨some 4, .load false [.int .i64] (.tmp 3), none⟩,
  ⟨some 5, .bin .geq (.tmp 4) (.const (.int .i64 1)), none⟩,
  ⟨some 6, .mv (.tmp 5), none⟩,
  ⟨some 7, .fieldAddr 0 (.tmp 1), some (6, true)⟩,
  ⟨some 8, .load false [.int .i64] (.tmp 7), some (6, true)⟩,
  ⟨some 9, .bin .leq (.tmp 8) (.const (.int .i64 65536)), some (6, true)⟩,
  ⟨some 10, .pick (.tmp 6) (.tmp 9) (.const (.bool false)), none⟩,
  ⟨some 11, .mv (.tmp 10), none⟩,
  ⟨some 12, .fieldAddr 1 (.tmp 1), some (11, true)⟩,
  ⟨some 13, .load false [.int .i64] (.tmp 12), some (11, true)⟩,
  ⟨some 14, .bin .geq (.tmp 13) (.const (.int .i64 1)), some (11, true)⟩,
  ⟨some 15, .pick (.tmp 11) (.tmp 14) (.const (.bool false)), none⟩,
  ⟨some 16, .mv (.tmp 15), none⟩,
  ⟨some 17, .fieldAddr 1 (.tmp 1), some (16, true)⟩,
  ⟨some 18, .load false [.int .i64] (.tmp 17), some (16, true)⟩,
  ⟨some 19, .bin .leq (.tmp 18) (.const (.int .i64 256)), some (16, true)⟩,
  ⟨some 20, .pick (.tmp 16) (.tmp 19) (.const (.bool false)), none⟩,
  ⟨some 2, .mv (.tmp 20), none⟩]
def c6_0 : ACode := .seq (.ops o6_1) (.seq (.ops o6_3) (.ret))
def a6 : AFun := ⟨21, [.tmp 2], c6_0⟩
theorem ok6 : OkFun Try.prog 6 a6 := ⟨Try.f6, Try.f6.body.getD .skip, Try.func6, by kernel_rfl, by kernel_rfl, by kernel_rfl, by kernel_rfl, by kernel_rfl⟩
/-! #### skylightlaw34.fits -/
def o7_1 : List AOper := [⟨some 2, .mv (.const (.bool false)), none⟩]
def o7_3 : List AOper := [⟨some 3, .mv (.const (.int .i64 0)), none⟩]
def o7_6 : List AOper := [⟨some 4, .mv (.const (.int .i64 0)), none⟩]
def o7_11 : List AOper := [⟨some 5, .mv (.tmp 4), none⟩,
  ⟨some 6, .mv (.tmp 0), none⟩,
  ⟨some 7, .len (.tmp 6), none⟩,
  ⟨some 8, .bin .lss (.tmp 5) (.tmp 7), none⟩]
def o7_17 : List AOper := [⟨some 11, .mv (.tmp 3), none⟩,
  ⟨some 12, .mv (.tmp 0), none⟩,
  ⟨some 13, .mv (.tmp 4), none⟩,
  ⟨some 14, .indexAddr 2 (.tmp 12) (.tmp 13), none⟩,
  ⟨some 15, .fieldAddr 1 (.tmp 14), none⟩,
  ⟨some 16, .load false [.slice] (.tmp 15), none⟩,
  ⟨some 17, .len (.tmp 16), none⟩,
  ⟨some 18, .bin .add (.tmp 11) (.tmp 17), none⟩,
  ⟨some 3, .mv (.tmp 18), none⟩]
def o7_18 : List AOper := [⟨some 9, .mv (.tmp 4), none⟩,
  ⟨some 10, .bin .add (.tmp 9) (.const (.int .i64 1)), none⟩,
  ⟨some 4, .mv (.tmp 10), none⟩]
def c7_18 : ACode := .ops o7_18
def b7_8 : ACode := .post (.seq (.seq (.ops o7_11) (.cond (.tmp 8) (.skip) (.exit 0))) (.seq (.block 1 (.ops o7_17)) (.clear zl25 c7_18))) zl25
def o7_20 : List AOper := [⟨some 19, .mv (.tmp 0), none⟩,
  ⟨some 20, .len (.tmp 19), none⟩,
  ⟨some 21, .bin .leq (.tmp 20) (.const (.int .i64 6)), none⟩,
  ⟨some 22, .mv (.tmp 21), none⟩,
  ⟨some 23, .mv (.tmp 3), some (22, true)⟩,
  ⟨some 24, .bin .leq (.tmp 23) (.const (.int .i64 16)), some (22, true)⟩,
  ⟨some 25, .pick (.tmp 22) (.tmp 24) (.const (.bool false)), none⟩,
  ⟨some 2, .mv (.tmp 25), none⟩]
def c7_19 : ACode := .seq (.ops o7_20) (.ret)
def c7_0 : ACode := .seq (.ops o7_1) (.seq (.ops o7_3) (.seq (.seq (.ops o7_6) (.block 0 (.clear zl25 (.loop b7_8)))) (.clear zl26 c7_19)))
def a7 : AFun := ⟨26, [.tmp 2], c7_0⟩
theorem ok7 : OkFun Try.prog 7 a7 := ⟨Try.f7, Try.f7.body.getD .skip, Try.func7, by kernel_rfl, by kernel_rfl, by kernel_rfl, by kernel_rfl, by kernel_rfl⟩
/-! #### skylightlaw34.awake -/
def o8_1 : List AOper := [⟨some 0, .mv (.const (.bool false)), none⟩]
def o8_3 : List AOper := [⟨some 7, .build [.int .i64 0, .int .i64 0] [(0, 1, .const (.int .i64 1)), (1, 1, .const (.int .i64 1))], none⟩,
  ⟨some 1, .alloc [.int .i64 0, .int .i64 0], none⟩,
  ⟨none, .store 2 (.tmp 1) (.tmp 7), none⟩]
def o8_5 : List AOper := [⟨some 8, .load true [.int .i64, .int .i64] (.tmp 1), none⟩,
  ⟨some 9, .call true (.func 35) [.tmp 8] [(false, [.int .i64])] true, none⟩,
  ⟨some 10, .call false (.func 9) [.tmp 9] [(false, [.ptr])] true, none⟩,
  ⟨some 2, .mv (.tmp 10), none⟩]
def o8_7 : List AOper := [⟨some 11, .load true [.int .i64, .int .i64] (.tmp 1), none⟩,
  ⟨some 12, .call false (.func 11) [.tmp 11, .const (.int .i64 1)] [(false, [.ptr])] true, none⟩,
  ⟨some 3, .mv (.tmp 12), none⟩]
def o8_9 : List AOper := [⟨some 4, .mv (.const (.int .i64 0)), none⟩]
def o8_15 : List AOper := [⟨some 13, .mv (.tmp 4), none⟩,
  ⟨some 14, .bin .lss (.tmp 13) (.const (.int .i64 9)), none⟩,
  ⟨some 15, .mv (.tmp 14), none⟩,
  ⟨some 16, .mv (.tmp 3), some (15, true)⟩,
  ⟨some 17, .mv (.tmp 2), some (15, true)⟩,
  ⟨some 18, .call false (.func 17) [.tmp 16, .tmp 17] [(false, [.bool])] true, some (15, true)⟩,
  ⟨some 19, .pick (.tmp 15) (.tmp 18) (.const (.bool false)), none⟩]
def o8_20 : List AOper := [⟨some 20, .mv (.tmp 4), none⟩,
  ⟨some 21, .bin .add (.tmp 20) (.const (.int .i64 1)), none⟩,
  ⟨some 4, .mv (.tmp 21), none⟩]
def b8_12 : ACode := .post (.seq (.seq (.ops o8_15) (.cond (.tmp 19) (.skip) (.exit 0))) (.block 1 (.ops o8_20))) zl27
def o8_22 : List AOper := [⟨some 23, .mv (.tmp 3), none⟩,
  ⟨some 24, .call false (.func 20) [.tmp 23] [(false, [.slice]), (false, [.int .i64])] false, none⟩,
  ⟨some 22, .mv (.tmp 24), none⟩,
  ⟨some 25, .extract (.tmp 22) 0, none⟩,
  ⟨some 26, .extract (.tmp 22) 1, none⟩,
  ⟨some 5, .mv (.tmp 25), none⟩,
  ⟨some 6, .mv (.tmp 26), none⟩]
def o8_24 : List AOper := [⟨some 27, .mv (.tmp 4), none⟩,
  ⟨some 28, .bin .eql (.tmp 27) (.const (.int .i64 5)), none⟩,
  ⟨some 29, .mv (.tmp 28), none⟩,
  ⟨some 30, .load true [.int .i64, .int .i64] (.tmp 1), some (29, true)⟩,
  ⟨some 31, .call true (.func 30) [.tmp 30] [(false, [.int .i64])] true, some (29, true)⟩,
  ⟨some 32, .bin .eql (.tmp 31) (.const (.int .i64 5)), some (29, true)⟩,
  ⟨some 33, .pick (.tmp 29) (.tmp 32) (.const (.bool false)), none⟩,
  ⟨some 34, .mv (.tmp 33), none⟩,
  ⟨some 35, .mv (.tmp 6), some (34, true)⟩,
  ⟨some 36, .bin .eql (.tmp 35) (.const (.int .i64 0)), some (34, true)⟩,
  ⟨some 37, .pick (.tmp 34) (.tmp 36) (.const (.bool false)), none⟩,
  ⟨some 38, .mv (.tmp 37), none⟩,
  ⟨some 39, .mv (.tmp 5), some (38, true)⟩,
  ⟨some 40, .len (.tmp 39), some (38, true)⟩,
  ⟨some 41, .bin .eql (.tmp 40) (.const (.int .i64 1)), some (38, true)⟩,
  ⟨some 42, .pick (.tmp 38) (.tmp 41) (.const (.bool false)), none⟩,
  ⟨some 43, .mv (.tmp 42), none⟩,
  ⟨some 44, .mv (.tmp 3), some (43, true)⟩,
  ⟨some 45, .call false (.func 15) [.tmp 44] [(false, [.bool])] true, some (43, true)⟩,
  ⟨some 46, .pick (.tmp 43) (.tmp 45) (.const (.bool false)), none⟩,
  ⟨some 47, .mv (.tmp 46), none⟩,
  ⟨some 48, .load true [.int .i64, .int .i64] (.tmp 1), some (47, true)⟩,
  ⟨some 49, .call false (.func 11) [.tmp 48, .const (.int .i64 0)] [(false, [.ptr])] true, some (47, true)⟩,
  ⟨some 50, .eqNil 0 false (.tmp 49), some (47, true)⟩,
  ⟨some 51, .pick (.tmp 47) (.tmp 50) (.const (.bool false)), none⟩,
  ⟨some 0, .mv (.tmp 51), none⟩]
def c8_21 : ACode := .seq (.ops o8_22) (.seq (.ops o8_24) (.ret))
def c8_0 : ACode := .seq (.ops o8_1) (.seq (.ops o8_3) (.seq (.ops o8_5) (.seq (.ops o8_7) (.seq (.ops o8_9) (.seq (.block 0 (.clear zl27 (.loop b8_12))) (.clear zl28 c8_21))))))
def a8 : AFun := ⟨52, [.tmp 0], c8_0⟩
theorem ok8 : OkFun Try.prog 8 a8 := ⟨Try.f8, Try.f8.body.getD .skip, Try.func8, by kernel_rfl, by kernel_rfl, by kernel_rfl, by kernel_rfl, by kernel_rfl⟩
/-! #### cell.New -/
def o9_1 : List AOper := [⟨some 2, .mv (.const (.pointer none)), none⟩]
def o9_4 : List AOper := [⟨some 3, .mv (.tmp 0), none⟩,
  ⟨some 4, .bin .lss (.tmp 3) (.const (.int .i64 0)), none⟩,
  ⟨some 5, .mv (.tmp 4), none⟩,
  ⟨some 6, .mv (.tmp 0), some (5, false)⟩,
  ⟨some 7, .bin .gtr (.tmp 6) (.const (.int .i64 262144)), some (5, false)⟩,
  ⟨some 8, .pick (.tmp 5) (.const (.bool true)) (.tmp 7), none⟩]
def o9_7 : List AOper := [⟨some 2, .mv (.const (.pointer none)), none⟩]
def o9_11 : List AOper := [⟨some 9, .mv (.tmp 0), none⟩,
  ⟨some 10, .makeSlice 1 8 [.int .u64 0] (.tmp 9) (.tmp 9), none⟩,
  ⟨some 11, .build [.bool false, .slice none 0 0, .int .i64 0, .int .i64 0] [(0, 1, .const (.bool true)), (1, 1, .tmp 10)], none⟩,
  ⟨some 12, .box (.tmp 11), none⟩,
  ⟨some 2, .mv (.tmp 12), none⟩]
def c9_0 : ACode := .seq (.ops o9_1) (.seq (.seq (.ops o9_4) (.cond (.tmp 8) (.seq (.ops o9_7) (.ret)) (.skip))) (.seq (.ops o9_11) (.ret)))
def a9 : AFun := ⟨13, [.tmp 2], c9_0⟩
theorem ok9 : OkFun Try.prog 9 a9 := ⟨Try.f9, Try.f9.body.getD .skip, Try.func9, by kernel_rfl, by kernel_rfl, by kernel_rfl, by kernel_rfl, by kernel_rfl⟩
/-! #### skylightref31.Size -/
def o10_1 : List AOper := [⟨some 1, .box (.tmp 0), none⟩,
  ⟨some 2, .mv (.const (.int .i64 0)), none⟩]
def o10_4 : List AOper := [⟨some 3, .load true [.int .i64, .int .i64] (.tmp 1), none⟩,
  ⟨some 4, .call true (.func 6) [.tmp 3] [(false, [.bool])] true, none⟩,
  ⟨some 5, .un .not (.tmp 4), none⟩]
def o10_7 : List AOper := [⟨some 2, .mv (.const (.int .i64 0)), none⟩]
def o10_11 : List AOper := [⟨some 6, .fieldAddr 1 (.tmp 1), none⟩,
  ⟨some 7, .load false [.int .i64] (.tmp 6), none⟩,
  ⟨some 8, .bin .mul (.const (.int .i64 2)) (.tmp 7), none⟩,
  ⟨some 9, .bin .add (.const (.int .i64 1)) (.tmp 8), none⟩,
  ⟨some 10, .fieldAddr 0 (.tmp 1), none⟩,
  ⟨some 11, .load false [.int .i64] (.tmp 10), none⟩,
  ⟨some 12, .bin .mul (.const (.int .i64 3)) (.tmp 11), none⟩,
  ⟨some 13, .bin .add (.tmp 9) (.tmp 12), none⟩,
  ⟨some 2, .mv (.tmp 13), none⟩]
def c10_0 : ACode := .seq (.ops o10_1) (.seq (.seq (.ops o10_4) (.cond (.tmp 5) (.seq (.ops o10_7) (.ret)) (.skip))) (.seq (.ops o10_11) (.ret)))
def a10 : AFun := ⟨14, [.tmp 2], c10_0⟩
theorem ok10 : OkFun Try.prog 10 a10 := ⟨Try.f10, Try.f10.body.getD .skip, Try.func10, by kernel_rfl, by kernel_rfl, by kernel_rfl, by kernel_rfl, by kernel_rfl⟩
/-! #### peek.New -/
def o11_1 : List AOper := [⟨some 2, .box (.tmp 0), none⟩,
  ⟨some 4, .mv (.const (.pointer none)), none⟩]
def o11_4 : List AOper := [⟨some 5, .load true [.int .i64, .int .i64] (.tmp 2), none⟩,
  ⟨some 6, .call true (.func 36) [.tmp 5] [(false, [.bool])] true, none⟩,
  ⟨some 7, .un .not (.tmp 6), none⟩,
  ⟨some 8, .mv (.tmp 7), none⟩,
  ⟨some 9, .mv (.tmp 1), some (8, false)⟩,
  ⟨some 10, .bin .lss (.tmp 9) (.const (.int .i64 1)), some (8, false)⟩,
  ⟨some 11, .pick (.tmp 8) (.const (.bool true)) (.tmp 10), none⟩,
  ⟨some 12, .mv (.tmp 11), none⟩,
  ⟨some 13, .mv (.tmp 1), some (12, false)⟩,
  ⟨some 14, .bin .gtr (.tmp 13) (.const (.int .i64 1000)), some (12, false)⟩,
  ⟨some 15, .pick (.tmp 12) (.const (.bool true)) (.tmp 14), none⟩]
def o11_7 : List AOper := [⟨some 4, .mv (.const (.pointer none)), none⟩]
def o11_11 : List (AOper × Option Nat) := [(⟨some 16, .load true [.int .i64, .int .i64] (.tmp 2), none⟩, none),
  (⟨some 17, .mv (.tmp 1), none⟩, none),
  (⟨some 18, .fieldAddr 1 (.tmp 2), none⟩, none),
  (⟨some 19, .load false [.int .i64] (.tmp 18), none⟩, none),
  (⟨some 20, .made 1 8 (.tmp 19) (.tmp 19) (.tmp 20), none⟩, none),
  (⟨some 21, .fieldAddr 1 (.tmp 2), none⟩, none),
  (⟨some 22, .load false [.int .i64] (.tmp 21), none⟩, none),
  (⟨some 23, .made 1 8 (.tmp 22) (.tmp 22) (.tmp 23), none⟩, none),
  (⟨some 24, .fieldAddr 0 (.tmp 2), none⟩, none),
  (⟨some 25, .load false [.int .i64] (.tmp 24), none⟩, none),
  (⟨some 26, .made 3 24 (.tmp 25) (.tmp 25) (.tmp 26), none⟩, none),
  (⟨some 27, .build [.int .i64 0, .int .i64 0, .int .i64 0, .int .i64 0, .int .i64 0, .slice none 0 0, .slice none 0 0, .slice none 0 0, .int .i64 0, .bool false] [(0, 2, .tmp 16), (2, 1, .tmp 17), (5, 1, .tmp 20), (6, 1, .tmp 23), (7, 1, .tmp 26)], none⟩, none),
  (⟨some 28, .box (.tmp 27), none⟩, none),
  (⟨some 4, .mv (.tmp 28), none⟩, none)]
def f11_11 : List AOper := [⟨some 18, .fieldAddr 1 (.tmp 2), none⟩,
  ⟨some 19, .load false [.int .i64] (.tmp 18), none⟩,
  ⟨some 20, .makeSlice 1 8 [.int .u64 0] (.tmp 19) (.tmp 19), none⟩,
  ⟨some 21, .fieldAddr 1 (.tmp 2), none⟩,
  ⟨some 22, .load false [.int .i64] (.tmp 21), none⟩,
  ⟨some 23, .makeSlice 1 8 [.int .u64 0] (.tmp 22) (.tmp 22), none⟩,
  ⟨some 24, .fieldAddr 0 (.tmp 2), none⟩,
  ⟨some 25, .load false [.int .i64] (.tmp 24), none⟩,
  ⟨some 26, .makeSlice 3 24 [.int .u64 0, .int .u64 0, .int .u64 0] (.tmp 25) (.tmp 25), none⟩]
def c11_0 : ACode := .seq (.ops o11_1) (.seq (.seq (.ops o11_4) (.cond (.tmp 15) (.seq (.ops o11_7) (.ret)) (.skip))) (.seq (.draw f11_11 0 o11_11 []) (.ret)))
def a11 : AFun := ⟨29, [.tmp 4], c11_0⟩
theorem ok11 : OkFun Try.prog 11 a11 := ⟨Try.f11, Try.f11.body.getD .skip, Try.func11, by kernel_rfl, by kernel_rfl, by kernel_rfl, by kernel_rfl, by kernel_rfl⟩
/-! #### skylightlaw34.lay -/
def o12_1 : List AOper := [⟨some 1, .box (.tmp 0), none⟩,
  ⟨some 2, .alloc [.int .i64 0, .int .i64 0], none⟩]
def o12_3 : List AOper := [⟨some 3, .fieldAddr 0 (.tmp 1), none⟩,
  ⟨some 4, .load false [.int .i64] (.tmp 3), none⟩,
  ⟨some 5, .fieldAddr 1 (.tmp 1), none⟩,
  ⟨some 6, .load false [.int .i64] (.tmp 5), none⟩,
  ⟨some 7, .build [.int .i64 0, .int .i64 0] [(0, 1, .tmp 4), (1, 1, .tmp 6)], none⟩,
  ⟨none, .store 2 (.tmp 2) (.tmp 7), none⟩]
def c12_0 : ACode := .seq (.ops o12_1) (.seq (.ops o12_3) (.ret))
def a12 : AFun := ⟨8, [.cell true [.int .i64, .int .i64] 2], c12_0⟩
theorem ok12 : OkFun Try.prog 12 a12 := ⟨Try.f12, Try.f12.body.getD .skip, Try.func12, by kernel_rfl, by kernel_rfl, by kernel_rfl, by kernel_rfl, by kernel_rfl⟩
/-! #### flush.New -/
def o13_1 : List AOper := [⟨some 3, .box (.tmp 0), none⟩,
  ⟨some 6, .mv (.const (.pointer none)), none⟩]
def o13_4 : List AOper := [⟨some 11, .load true [.int .i64, .int .i64] (.tmp 3), none⟩,
  ⟨some 12, .mv (.tmp 1), none⟩,
  ⟨some 13, .call true (.func 37) [.tmp 11, .tmp 12] [(false, [.int .i64])] true, none⟩,
  ⟨some 14, .bin .lss (.tmp 13) (.const (.int .i64 0)), none⟩,
  ⟨some 15, .mv (.tmp 14), none⟩,
  ⟨some 16, .mv (.tmp 2), some (15, false)⟩,
  ⟨some 17, .len (.tmp 16), some (15, false)⟩,
  ⟨some 18, .bin .gtr (.tmp 17) (.const (.int .i64 4096)), some (15, false)⟩,
  ⟨some 19, .pick (.tmp 15) (.const (.bool true)) (.tmp 18), none⟩]
def o13_7 : List AOper := [⟨some 6, .mv (.const (.pointer none)), none⟩]
def o13_12 : List AOper := [⟨some 20, .mv (.tmp 2), none⟩,
  ⟨some 21, .len (.tmp 20), none⟩,
  ⟨some 22, .mv (.const (.int .i64 0)), none⟩]
def o13_16 : List AOper := [⟨some 23, .bin .lss (.tmp 22) (.tmp 21), none⟩]
def o13_24 : List AOper := [⟨some 24, .indexAddr 4 (.tmp 20) (.tmp 22), none⟩,
  ⟨some 25, .load true [.int .i64, .int .u64, .int .u64, .int .u64] (.tmp 24), none⟩,
  ⟨some 8, .alloc [.int .i64 0, .int .u64 0, .int .u64 0, .int .u64 0], none⟩,
  ⟨none, .store 4 (.tmp 8) (.tmp 25), none⟩]
def o13_26 : List AOper := [⟨some 26, .load true [.int .i64, .int .i64] (.tmp 3), none⟩,
  ⟨some 27, .fieldAddr 0 (.tmp 8), none⟩,
  ⟨some 28, .load false [.int .i64] (.tmp 27), none⟩,
  ⟨some 29, .call true (.func 38) [.tmp 26, .tmp 28] [(false, [.int .i64])] true, none⟩,
  ⟨some 30, .mv (.tmp 1), none⟩,
  ⟨some 31, .bin .neq (.tmp 29) (.tmp 30), none⟩]
def o13_29 : List AOper := [⟨some 6, .mv (.const (.pointer none)), none⟩]
def o13_32 : List AOper := [⟨some 32, .bin .add (.tmp 22) (.const (.int .i64 1)), none⟩,
  ⟨some 22, .mv (.tmp 32), none⟩]
def c13_32 : ACode := .ops o13_32
def b13_14 : ACode := .post (.seq (.ops o13_16) (.seq (.cond (.tmp 23) (.skip) (.exit 0)) (.seq (.block 1 (.seq (.ops o13_24) (.seq (.ops o13_26) (.cond (.tmp 31) (.seq (.ops o13_29) (.ret)) (.skip))))) (.clear zl29 c13_32)))) zl29
def o13_34 : List AOper := [⟨some 33, .load true [.int .i64, .int .i64] (.tmp 3), none⟩,
  ⟨some 34, .call true (.func 35) [.tmp 33] [(false, [.int .i64])] true, none⟩,
  ⟨some 35, .build [.int .i64 0, .slice none 0 0, .int .i64 0, .bool false, .int .u64 0, .int .i64 0] [(0, 1, .tmp 34)], none⟩,
  ⟨some 36, .box (.tmp 35), none⟩,
  ⟨some 9, .alloc [.pointer none], none⟩,
  ⟨none, .store 1 (.tmp 9) (.tmp 36), none⟩]
def o13_37 : List AOper := [⟨some 37, .load true [.int .i64, .int .i64] (.tmp 3), none⟩,
  ⟨some 38, .mv (.tmp 1), none⟩,
  ⟨some 39, .mv (.tmp 2), none⟩,
  ⟨some 40, .call false (.func 39) [.tmp 37, .tmp 38, .tmp 39] [(false, [.any])] true, none⟩]
def o13_40 : List AOper := [⟨some 10, .alloc [.int .i64 0, .int .u64 0], none⟩,
  ⟨none, .store 2 (.tmp 10) (.tmp 41), none⟩]
def o13_42 : List (AOper × Option Nat) := [(⟨some 42, .load false [.ptr] (.tmp 9), none⟩, none),
  (⟨some 43, .load false [.ptr] (.tmp 9), none⟩, none),
  (⟨some 44, .nilCheck (.tmp 43), none⟩, none),
  (⟨some 45, .fieldAddr 1 (.tmp 44), none⟩, none),
  (⟨some 46, .load false [.slice] (.tmp 45), none⟩, none),
  (⟨some 47, .load true [.int .i64, .int .u64] (.tmp 10), none⟩, none),
  (⟨some 48, .buildSlice 2 1 [.int .i64 0, .int .u64 0] [(0, 2, .tmp 47)], none⟩, none),
  (⟨some 49, .append 2 16 (.tmp 46) (.tmp 48), none⟩, none),
  (⟨some 50, .nilCheck (.tmp 42), none⟩, none),
  (⟨some 51, .fieldAddr 1 (.tmp 50), none⟩, none),
  (⟨none, .store 1 (.tmp 51) (.tmp 49), none⟩, none)]
def b13_39 : ACode := .block 3 (.draw [] 0 o13_42 [(0, 6), (0, 7), (1, 6), (4, 6)])
def o13_44 : List AOper := [⟨some 52, .load false [.ptr] (.tmp 9), none⟩,
  ⟨some 6, .mv (.tmp 52), none⟩]
def c13_43 : ACode := .seq (.ops o13_44) (.ret)
def c13_33 : ACode := .seq (.ops o13_34) (.seq (.seq (.ops o13_37) (.block 2 (.clear zl30 (.rangeFunc (.tmp 40) [41] (.ops o13_40) b13_39)))) (.clear zl31 c13_43))
def c13_0 : ACode := .seq (.ops o13_1) (.seq (.seq (.ops o13_4) (.cond (.tmp 19) (.seq (.ops o13_7) (.ret)) (.skip))) (.seq (.seq (.ops o13_12) (.block 0 (.clear zl29 (.loop b13_14)))) (.clear zl32 c13_33)))
def a13 : AFun := ⟨53, [.tmp 6], c13_0⟩
theorem ok13 : OkFun Try.prog 13 a13 := ⟨Try.f13, Try.f13.body.getD .skip, Try.func13, by kernel_rfl, by kernel_rfl, by kernel_rfl, by kernel_rfl, by kernel_rfl⟩
/-! #### skylightlaw34.of -/
def o14_1 : List AOper := [⟨some 2, .mv (.const (.slice none 0 0)), none⟩]
def o14_3 : List AOper := [⟨some 3, .mv (.const (.slice none 0 0)), none⟩]
def o14_6 : List AOper := [⟨some 4, .mv (.const (.int .i64 0)), none⟩]
def o14_11 : List AOper := [⟨some 5, .mv (.tmp 4), none⟩,
  ⟨some 6, .mv (.tmp 0), none⟩,
  ⟨some 7, .len (.tmp 6), none⟩,
  ⟨some 8, .bin .lss (.tmp 5) (.tmp 7), none⟩]
def o14_17 : List (AOper × Option Nat) := [(⟨some 11, .mv (.tmp 3), none⟩, none),
  (⟨some 12, .mv (.tmp 0), none⟩, none),
  (⟨some 13, .mv (.tmp 4), none⟩, none),
  (⟨some 14, .indexAddr 4 (.tmp 12) (.tmp 13), none⟩, none),
  (⟨some 15, .fieldAddr 0 (.tmp 14), none⟩, none),
  (⟨some 16, .load false [.int .i64] (.tmp 15), none⟩, none),
  (⟨some 17, .mv (.tmp 0), none⟩, none),
  (⟨some 18, .mv (.tmp 4), none⟩, none),
  (⟨some 19, .indexAddr 4 (.tmp 17) (.tmp 18), none⟩, none),
  (⟨some 20, .fieldAddr 1 (.tmp 19), none⟩, none),
  (⟨some 21, .load true [.int .u64, .int .u64, .int .u64] (.tmp 20), none⟩, none),
  (⟨some 22, .build [.int .i64 0, .int .u64 0, .int .u64 0, .int .u64 0] [(0, 1, .tmp 16), (1, 3, .tmp 21)], none⟩, none),
  (⟨some 23, .buildSlice 4 1 [.int .i64 0, .int .u64 0, .int .u64 0, .int .u64 0] [(0, 4, .tmp 22)], none⟩, none),
  (⟨some 24, .append 4 32 (.tmp 11) (.tmp 23), none⟩, none),
  (⟨some 3, .mv (.tmp 24), none⟩, none)]
def o14_18 : List AOper := [⟨some 9, .mv (.tmp 4), none⟩,
  ⟨some 10, .bin .add (.tmp 9) (.const (.int .i64 1)), none⟩,
  ⟨some 4, .mv (.tmp 10), none⟩]
def c14_18 : ACode := .ops o14_18
def b14_8 : ACode := .post (.seq (.seq (.ops o14_11) (.cond (.tmp 8) (.skip) (.exit 0))) (.seq (.block 1 (.draw [] 0 o14_17 [])) (.clear zl25 c14_18))) zl25
def o14_20 : List AOper := [⟨some 25, .mv (.tmp 3), none⟩,
  ⟨some 2, .mv (.tmp 25), none⟩]
def c14_19 : ACode := .seq (.ops o14_20) (.ret)
def c14_0 : ACode := .seq (.ops o14_1) (.seq (.ops o14_3) (.seq (.seq (.ops o14_6) (.block 0 (.clear zl25 (.loop b14_8)))) (.clear zl33 c14_19)))
def a14 : AFun := ⟨26, [.tmp 2], c14_0⟩
theorem ok14 : OkFun Try.prog 14 a14 := ⟨Try.f14, Try.f14.body.getD .skip, Try.func14, by kernel_rfl, by kernel_rfl, by kernel_rfl, by kernel_rfl, by kernel_rfl⟩
/-! #### peek.Peek.Done -/
def o15_1 : List AOper := [⟨some 2, .mv (.const (.bool false)), none⟩]
def o15_3 : List AOper := [⟨some 3, .mv (.tmp 0), none⟩,
  ⟨some 4, .call false (.func 40) [.tmp 3] [(false, [.bool])] true, none⟩,
  ⟨some 5, .mv (.tmp 4), none⟩,
  ⟨some 6, .mv (.tmp 0), some (5, true)⟩,
  ⟨some 7, .nilCheck (.tmp 6), some (5, true)⟩,
  ⟨some 8, .fieldAddr 9 (.tmp 7), some (5, true)⟩,
  ⟨some 9, .load false [.bool] (.tmp 8), some (5, true)⟩,
  ⟨some 10, .pick (.tmp 5) (.tmp 9) (.const (.bool false)), none⟩,
  ⟨some 2, .mv (.tmp 10), none⟩]
def c15_0 : ACode := .seq (.ops o15_1) (.seq (.ops o15_3) (.ret))
def a15 : AFun := ⟨11, [.tmp 2], c15_0⟩
theorem ok15 : OkFun Try.prog 15 a15 := ⟨Try.f15, Try.f15.body.getD .skip, Try.func15, by kernel_rfl, by kernel_rfl, by kernel_rfl, by kernel_rfl, by kernel_rfl⟩
/-! #### skylightlaw34.sum -/
def o16_1 : List AOper := [⟨some 6, .mv (.const (.int .i64 0)), none⟩]
def o16_3 : List AOper := [⟨some 7, .mv (.const (.int .i64 0)), none⟩]
def o16_6 : List AOper := [⟨some 8, .mv (.const (.int .i64 0)), none⟩]
def o16_11 : List AOper := [⟨some 9, .mv (.tmp 8), none⟩,
  ⟨some 10, .mv (.tmp 0), none⟩,
  ⟨some 11, .len (.tmp 10), none⟩,
  ⟨some 12, .bin .lss (.tmp 9) (.tmp 11), none⟩]
def o16_18 : List AOper := [⟨some 15, .mv (.tmp 2), none⟩,
  ⟨some 16, .mv (.tmp 15), none⟩,
  ⟨some 17, .mv (.tmp 0), some (16, true)⟩,
  ⟨some 18, .mv (.tmp 8), some (16, true)⟩,
  ⟨some 19, .indexAddr 1 (.tmp 17) (.tmp 18), some (16, true)⟩,
  ⟨some 20, .load false [.ptr] (.tmp 19), some (16, true)⟩,
  ⟨some 21, .call false (.func 33) [.tmp 20] [(false, [.bool])] true, some (16, true)⟩,
  ⟨some 22, .pick (.tmp 16) (.tmp 21) (.const (.bool false)), none⟩,
  ⟨some 23, .mv (.tmp 22), none⟩,
  ⟨some 24, .mv (.tmp 2), some (23, false)⟩,
  ⟨some 25, .un .not (.tmp 24), some (23, false)⟩,
  ⟨some 26, .mv (.tmp 25), some (23, false)⟩,
  ⟨some 27, .mv (.tmp 0), some (26, true)⟩,
  ⟨some 28, .mv (.tmp 8), some (26, true)⟩,
  ⟨some 29, .indexAddr 1 (.tmp 27) (.tmp 28), some (26, true)⟩,
  ⟨some 30, .load false [.ptr] (.tmp 29), some (26, true)⟩,
  ⟨some 31, .call false (.func 32) [.tmp 30] [(false, [.bool])] true, some (26, true)⟩,
  ⟨some 32, .un .not (.tmp 31), some (26, true)⟩,
  ⟨some 33, .pick (.tmp 26) (.tmp 32) (.const (.bool false)), some (23, false)⟩,
  ⟨some 34, .pick (.tmp 23) (.const (.bool true)) (.tmp 33), none⟩]
def o16_20 : List AOper := [⟨some 35, .mv (.tmp 7), none⟩,
  ⟨some 36, .mv (.tmp 1), none⟩,
  ⟨some 37, .mv (.tmp 8), none⟩,
  ⟨some 38, .indexAddr 1 (.tmp 36) (.tmp 37), none⟩,
  ⟨some 39, .load false [.int .i64] (.tmp 38), none⟩,
  ⟨some 40, .bin .shl (.const (.int .i64 1)) (.tmp 39), none⟩,
  ⟨some 41, .bin .add (.tmp 35) (.tmp 40), none⟩,
  ⟨some 7, .mv (.tmp 41), none⟩]
def o16_22 : List AOper := [⟨some 13, .mv (.tmp 8), none⟩,
  ⟨some 14, .bin .add (.tmp 13) (.const (.int .i64 1)), none⟩,
  ⟨some 8, .mv (.tmp 14), none⟩]
def c16_22 : ACode := .ops o16_22
def b16_8 : ACode := .post (.seq (.seq (.ops o16_11) (.cond (.tmp 12) (.skip) (.exit 0))) (.seq (.block 1 (.seq (.ops o16_18) (.cond (.tmp 34) (.ops o16_20) (.skip)))) (.clear zl34 c16_22))) zl34
def o16_24 : List AOper := [⟨some 42, .mv (.tmp 7), none⟩,
  ⟨some 6, .mv (.tmp 42), none⟩]
def c16_23 : ACode := .seq (.ops o16_24) (.ret)
def c16_0 : ACode := .seq (.ops o16_1) (.seq (.ops o16_3) (.seq (.seq (.ops o16_6) (.block 0 (.clear zl34 (.loop b16_8)))) (.clear zl35 c16_23)))
def a16 : AFun := ⟨43, [.tmp 6], c16_0⟩
theorem ok16 : OkFun Try.prog 16 a16 := ⟨Try.f16, Try.f16.body.getD .skip, Try.func16, by kernel_rfl, by kernel_rfl, by kernel_rfl, by kernel_rfl, by kernel_rfl⟩
/-! #### peek.Peek.Step -/
def o17_1 : List AOper := [⟨some 4, .mv (.const (.bool false)), none⟩]
def o17_5 : List (AOper × Option Nat) := [(⟨some 7, .mv (.tmp 0), none⟩, none),
  (⟨some 8, .call false (.func 40) [.tmp 7] [(false, [.bool])] true, none⟩, none),
  (⟨some 9, .un .not (.tmp 8), none⟩, none),
  (⟨some 10, .mv (.tmp 9), none⟩, none),
  (⟨some 11, .mv (.tmp 0), some (10, false)⟩, none),
  (⟨some 12, .nilCheck (.tmp 11), some (10, false)⟩, none),
  (⟨some 13, .fieldAddr 9 (.tmp 12), some (10, false)⟩, none),
  (⟨some 14, .load false [.bool] (.tmp 13), some (10, false)⟩, none),
  (⟨some 15, .pick (.tmp 10) (.const (.bool true)) (.tmp 14), none⟩, none),
  (⟨some 16, .mv (.tmp 15), none⟩, none),
  (⟨some 17, .mv (.tmp 1), some (16, false)⟩, none),
  (⟨some 18, .call false (.func 41) [.tmp 17] [(false, [.int .i64])] true, some (16, false)⟩, none),
  (⟨some 19, .mv (.tmp 0), some (16, false)⟩, none),
  (⟨some 20, .nilCheck (.tmp 19), some (16, false)⟩, none),
  (⟨some 21, .fieldAddr 0 (.tmp 20), some (16, false)⟩, none),
  (⟨some 22, .load true [.int .i64, .int .i64] (.tmp 21), some (16, false)⟩, none),
  (⟨some 23, .call true (.func 35) [.tmp 22] [(false, [.int .i64])] true, some (16, false)⟩, none),
  (⟨some 24, .bin .neq (.tmp 18) (.tmp 23), some (16, false)⟩, none),
  (⟨some 25, .pick (.tmp 16) (.const (.bool true)) (.tmp 24), none⟩, none)]
def o17_8 : List AOper := [⟨some 4, .mv (.const (.bool false)), none⟩]
def o17_12 : List AOper := [⟨some 27, .mv (.tmp 0), none⟩,
  ⟨some 28, .call false (.func 42) [.tmp 27] [(false, [.int .i64]), (false, [.ptr])] false, none⟩,
  ⟨some 26, .mv (.tmp 28), none⟩,
  ⟨some 29, .extract (.tmp 26) 0, none⟩,
  ⟨some 30, .extract (.tmp 26) 1, none⟩,
  ⟨some 5, .mv (.tmp 29), none⟩,
  ⟨some 6, .mv (.tmp 30), none⟩]
def o17_14 : List AOper := [⟨some 32, .mv (.tmp 6), none⟩,
  ⟨some 33, .mv (.tmp 1), none⟩,
  ⟨some 34, .mv (.tmp 5), none⟩,
  ⟨some 35, .call false (.func 43) [.tmp 33, .tmp 34] [(false, [.int .u64]), (false, [.bool])] false, none⟩,
  ⟨some 31, .mv (.tmp 35), none⟩,
  ⟨some 36, .extract (.tmp 31) 0, none⟩,
  ⟨some 37, .extract (.tmp 31) 1, none⟩,
  ⟨some 38, .nilCheck (.tmp 32), none⟩,
  ⟨none, .store 1 (.tmp 38) (.tmp 36), none⟩]
def o17_17 : List AOper := [⟨some 39, .mv (.tmp 0), none⟩,
  ⟨some 40, .nilCheck (.tmp 39), none⟩,
  ⟨some 41, .fieldAddr 4 (.tmp 40), none⟩,
  ⟨some 42, .load false [.int .i64] (.tmp 41), none⟩,
  ⟨some 43, .bin .add (.tmp 42) (.const (.int .i64 1)), none⟩,
  ⟨some 44, .nilCheck (.tmp 39), none⟩,
  ⟨some 45, .fieldAddr 4 (.tmp 44), none⟩,
  ⟨none, .store 1 (.tmp 45) (.tmp 43), none⟩]
def o17_19 : List (AOper × Option Nat) := [(⟨some 46, .mv (.tmp 0), none⟩, none),
  (⟨some 47, .nilCheck (.tmp 46), none⟩, none),
  (⟨some 48, .fieldAddr 4 (.tmp 47), none⟩, none),
  (⟨some 49, .load false [.int .i64] (.tmp 48), none⟩, none),
  (⟨some 50, .mv (.tmp 0), none⟩, none),
  (⟨some 51, .nilCheck (.tmp 50), none⟩, none),
  (⟨some 52, .fieldAddr 0 (.tmp 51), none⟩, none),
  (⟨some 53, .load true [.int .i64, .int .i64] (.tmp 52), none⟩, none),
  (⟨some 54, .call true (.func 30) [.tmp 53] [(false, [.int .i64])] true, none⟩, none),
  (⟨some 55, .bin .lss (.tmp 49) (.tmp 54), none⟩, none)]
def o17_22 : List AOper := [⟨some 4, .mv (.const (.bool true)), none⟩]
def o17_26 : List AOper := [⟨some 56, .mv (.tmp 0), none⟩,
  ⟨some 57, .nilCheck (.tmp 56), none⟩,
  ⟨some 58, .fieldAddr 3 (.tmp 57), none⟩,
  ⟨some 59, .load false [.int .i64] (.tmp 58), none⟩,
  ⟨some 60, .bin .add (.tmp 59) (.const (.int .i64 1)), none⟩,
  ⟨some 61, .nilCheck (.tmp 56), none⟩,
  ⟨some 62, .fieldAddr 3 (.tmp 61), none⟩,
  ⟨none, .store 1 (.tmp 62) (.tmp 60), none⟩]
def o17_29 : List (AOper × Option Nat) := [(⟨some 63, .mv (.tmp 0), none⟩, none),
  (⟨some 64, .nilCheck (.tmp 63), none⟩, none),
  (⟨some 65, .fieldAddr 5 (.tmp 64), none⟩, none),
  (⟨some 66, .load false [.slice] (.tmp 65), none⟩, none),
  (⟨some 67, .mv (.tmp 0), none⟩, none),
  (⟨some 68, .nilCheck (.tmp 67), none⟩, none),
  (⟨some 69, .fieldAddr 6 (.tmp 68), none⟩, none),
  (⟨some 70, .load false [.slice] (.tmp 69), none⟩, none),
  (⟨some 71, .call false (.func 44) [.tmp 66, .tmp 70] [(false, [.bool])] true, none⟩, none)]
def c17_30 : ACode := .cond (.tmp 71) (.exit 1000000000) (.skip)
def o17_35 : List (AOper × Option Nat) := [(⟨some 72, .mv (.tmp 0), none⟩, none),
  (⟨some 73, .nilCheck (.tmp 72), none⟩, none),
  (⟨some 74, .fieldAddr 3 (.tmp 73), none⟩, none),
  (⟨some 75, .load false [.int .i64] (.tmp 74), none⟩, none),
  (⟨some 76, .mv (.tmp 0), none⟩, none),
  (⟨some 77, .nilCheck (.tmp 76), none⟩, none),
  (⟨some 78, .fieldAddr 2 (.tmp 77), none⟩, none),
  (⟨some 79, .load false [.int .i64] (.tmp 78), none⟩, none),
  (⟨some 80, .bin .lss (.tmp 75) (.tmp 79), none⟩, none)]
def o17_38 : List AOper := [⟨some 81, .mv (.tmp 0), none⟩,
  ⟨some 82, .nilCheck (.tmp 81), none⟩,
  ⟨some 83, .fieldAddr 4 (.tmp 82), none⟩,
  ⟨none, .store 1 (.tmp 83) (.const (.int .i64 0)), none⟩]
def o17_40 : List AOper := [⟨some 4, .mv (.const (.bool true)), none⟩]
def o17_44 : List AOper := [⟨some 84, .mv (.tmp 0), none⟩,
  ⟨some 85, .nilCheck (.tmp 84), none⟩,
  ⟨some 86, .fieldAddr 8 (.tmp 85), none⟩,
  ⟨none, .store 1 (.tmp 86) (.const (.int .i64 12)), none⟩]
def o17_49 : List AOper := [⟨some 87, .mv (.tmp 0), none⟩,
  ⟨some 88, .nilCheck (.tmp 87), none⟩,
  ⟨some 89, .fieldAddr 9 (.tmp 88), none⟩,
  ⟨none, .store 1 (.tmp 89) (.const (.bool true)), none⟩]
def o17_51 : List AOper := [⟨some 4, .mv (.const (.bool true)), none⟩]
def c17_48 : ACode := .seq (.ops o17_49) (.seq (.ops o17_51) (.ret))
def o17_56 : List AOper := [⟨some 87, .mv (.tmp 0), none⟩,
  ⟨some 88, .nilCheck (.tmp 87), none⟩,
  ⟨some 89, .fieldAddr 9 (.tmp 88), none⟩,
  ⟨none, .store 1 (.tmp 89) (.const (.bool true)), none⟩]
def o17_58 : List AOper := [⟨some 4, .mv (.const (.bool true)), none⟩]
def c17_53 : ACode := .seq (.skip) (.seq (.ops o17_56) (.seq (.ops o17_58) (.ret)))
def c17_0 : ACode := .seq (.ops o17_1) (.scope 0 (.seq (.seq (.draw [] 0 o17_5 [(15, 11)]) (.cond (.tmp 25) (.seq (.ops o17_8) (.ret)) (.skip))) (.seq (.ops o17_12) (.seq (.ops o17_14) (.seq (.seq (.ops o17_17) (.seq (.draw [] 0 o17_19 []) (.cond (.tmp 55) (.seq (.ops o17_22) (.ret)) (.skip)))) (.seq (.ops o17_26) (.seq (.seq (.draw [] 0 o17_29 []) (.clear zl36 c17_30)) (.seq (.seq (.draw [] 0 o17_35 []) (.cond (.tmp 80) (.seq (.ops o17_38) (.seq (.ops o17_40) (.ret))) (.skip))) (.seq (.ops o17_44) (.seq (.block 1000000000 (.skip)) (.clear zl37 c17_48)))))))))) (.clear zl37 c17_53))
def a17 : AFun := ⟨90, [.tmp 4], c17_0⟩
theorem ok17 : OkFun Try.prog 17 a17 := ⟨Try.f17, Try.f17.body.getD .skip, Try.func17, by kernel_rfl, by kernel_rfl, by kernel_rfl, by kernel_rfl, by kernel_rfl⟩
/-! #### flush.Flush.Step -/
def o18_1 : List AOper := [⟨some 4, .mv (.const (.bool false)), none⟩]
def o18_4 : List (AOper × Option Nat) := [(⟨some 6, .mv (.tmp 0), none⟩, none),
  (⟨some 7, .call false (.func 45) [.tmp 6] [(false, [.int .i64])] true, none⟩, none),
  (⟨some 8, .bin .eql (.tmp 7) (.const (.int .i64 0)), none⟩, none),
  (⟨some 9, .mv (.tmp 8), none⟩, none),
  (⟨some 10, .mv (.tmp 1), some (9, false)⟩, none),
  (⟨some 11, .call false (.func 41) [.tmp 10] [(false, [.int .i64])] true, some (9, false)⟩, none),
  (⟨some 12, .mv (.tmp 0), some (9, false)⟩, none),
  (⟨some 13, .nilCheck (.tmp 12), some (9, false)⟩, none),
  (⟨some 14, .fieldAddr 0 (.tmp 13), some (9, false)⟩, none),
  (⟨some 15, .load false [.int .i64] (.tmp 14), some (9, false)⟩, none),
  (⟨some 16, .bin .neq (.tmp 11) (.tmp 15), some (9, false)⟩, none),
  (⟨some 17, .pick (.tmp 9) (.const (.bool true)) (.tmp 16), none⟩, none)]
def o18_7 : List AOper := [⟨some 4, .mv (.const (.bool false)), none⟩]
def o18_11 : List (AOper × Option Nat) := [(⟨some 18, .mv (.tmp 0), none⟩, none),
  (⟨some 19, .nilCheck (.tmp 18), none⟩, none),
  (⟨some 20, .fieldAddr 1 (.tmp 19), none⟩, none),
  (⟨some 21, .load false [.slice] (.tmp 20), none⟩, none),
  (⟨some 22, .mv (.tmp 0), none⟩, none),
  (⟨some 23, .nilCheck (.tmp 22), none⟩, none),
  (⟨some 24, .fieldAddr 2 (.tmp 23), none⟩, none),
  (⟨some 25, .load false [.int .i64] (.tmp 24), none⟩, none),
  (⟨some 26, .indexAddr 2 (.tmp 21) (.tmp 25), none⟩, none),
  (⟨some 27, .load true [.int .i64, .int .u64] (.tmp 26), none⟩, none),
  (⟨some 5, .alloc [.int .i64 0, .int .u64 0], none⟩, none),
  (⟨none, .store 2 (.tmp 5) (.tmp 27), none⟩, none)]
def o18_14 : List AOper := [⟨some 28, .mv (.tmp 0), none⟩,
  ⟨some 29, .nilCheck (.tmp 28), none⟩,
  ⟨some 30, .fieldAddr 3 (.tmp 29), none⟩,
  ⟨some 31, .load false [.bool] (.tmp 30), none⟩,
  ⟨some 32, .un .not (.tmp 31), none⟩]
def o18_17 : List AOper := [⟨some 34, .mv (.tmp 0), none⟩,
  ⟨some 35, .mv (.tmp 0), none⟩,
  ⟨some 36, .mv (.tmp 1), none⟩,
  ⟨some 37, .fieldAddr 0 (.tmp 5), none⟩,
  ⟨some 38, .load false [.int .i64] (.tmp 37), none⟩,
  ⟨some 39, .call false (.func 43) [.tmp 36, .tmp 38] [(false, [.int .u64]), (false, [.bool])] false, none⟩,
  ⟨some 33, .mv (.tmp 39), none⟩,
  ⟨some 40, .extract (.tmp 33) 0, none⟩,
  ⟨some 41, .extract (.tmp 33) 1, none⟩,
  ⟨some 42, .nilCheck (.tmp 34), none⟩,
  ⟨some 43, .fieldAddr 4 (.tmp 42), none⟩,
  ⟨none, .store 1 (.tmp 43) (.tmp 40), none⟩,
  ⟨some 44, .nilCheck (.tmp 35), none⟩,
  ⟨some 45, .fieldAddr 3 (.tmp 44), none⟩,
  ⟨none, .store 1 (.tmp 45) (.tmp 41), none⟩]
def o18_19 : List AOper := [⟨some 4, .mv (.const (.bool true)), none⟩]
def o18_23 : List AOper := [⟨some 46, .mv (.tmp 0), none⟩,
  ⟨some 47, .nilCheck (.tmp 46), none⟩,
  ⟨some 48, .fieldAddr 3 (.tmp 47), none⟩,
  ⟨none, .store 1 (.tmp 48) (.const (.bool false)), none⟩]
def o18_26 : List (AOper × Option Nat) := [(⟨some 49, .mv (.tmp 1), none⟩, none),
  (⟨some 50, .fieldAddr 0 (.tmp 5), none⟩, none),
  (⟨some 51, .load false [.int .i64] (.tmp 50), none⟩, none),
  (⟨some 52, .mv (.tmp 0), none⟩, none),
  (⟨some 53, .nilCheck (.tmp 52), none⟩, none),
  (⟨some 54, .fieldAddr 4 (.tmp 53), none⟩, none),
  (⟨some 55, .load false [.int .u64] (.tmp 54), none⟩, none),
  (⟨some 56, .mv (.tmp 0), none⟩, none),
  (⟨some 57, .nilCheck (.tmp 56), none⟩, none),
  (⟨some 58, .fieldAddr 4 (.tmp 57), none⟩, none),
  (⟨some 59, .load false [.int .u64] (.tmp 58), none⟩, none),
  (⟨some 60, .fieldAddr 1 (.tmp 5), none⟩, none),
  (⟨some 61, .load false [.int .u64] (.tmp 60), none⟩, none),
  (⟨some 62, .bin .add (.tmp 59) (.tmp 61), none⟩, none),
  (⟨some 63, .call false (.func 46) [.tmp 49, .tmp 51, .tmp 55, .tmp 62] [(false, [.bool])] true, none⟩, none)]
def o18_29 : List AOper := [⟨some 64, .mv (.tmp 0), none⟩,
  ⟨some 65, .nilCheck (.tmp 64), none⟩,
  ⟨some 66, .fieldAddr 2 (.tmp 65), none⟩,
  ⟨some 67, .load false [.int .i64] (.tmp 66), none⟩,
  ⟨some 68, .bin .add (.tmp 67) (.const (.int .i64 1)), none⟩,
  ⟨some 69, .nilCheck (.tmp 64), none⟩,
  ⟨some 70, .fieldAddr 2 (.tmp 69), none⟩,
  ⟨none, .store 1 (.tmp 70) (.tmp 68), none⟩]
def o18_31 : List AOper := [⟨some 4, .mv (.const (.bool true)), none⟩]
def o18_35 : List AOper := [⟨some 71, .mv (.tmp 0), none⟩,
  ⟨some 72, .nilCheck (.tmp 71), none⟩,
  ⟨some 73, .fieldAddr 5 (.tmp 72), none⟩,
  ⟨some 74, .load false [.int .i64] (.tmp 73), none⟩,
  ⟨some 75, .bin .add (.tmp 74) (.const (.int .i64 1)), none⟩,
  ⟨some 76, .nilCheck (.tmp 71), none⟩,
  ⟨some 77, .fieldAddr 5 (.tmp 76), none⟩,
  ⟨none, .store 1 (.tmp 77) (.tmp 75), none⟩]
def o18_37 : List AOper := [⟨some 4, .mv (.const (.bool true)), none⟩]
def c18_36 : ACode := .seq (.ops o18_37) (.ret)
def c18_0 : ACode := .seq (.ops o18_1) (.seq (.seq (.draw [] 0 o18_4 [(9, 5)]) (.cond (.tmp 17) (.seq (.ops o18_7) (.ret)) (.skip))) (.seq (.draw [] 0 o18_11 [(3, 10), (7, 10), (9, 10)]) (.seq (.seq (.ops o18_14) (.cond (.tmp 32) (.seq (.ops o18_17) (.seq (.ops o18_19) (.ret))) (.skip))) (.seq (.ops o18_23) (.seq (.seq (.draw [] 0 o18_26 []) (.cond (.tmp 63) (.seq (.ops o18_29) (.seq (.ops o18_31) (.ret))) (.skip))) (.seq (.ops o18_35) (.clear zl38 c18_36)))))))
def a18 : AFun := ⟨78, [.tmp 4], c18_0⟩
theorem ok18 : OkFun Try.prog 18 a18 := ⟨Try.f18, Try.f18.body.getD .skip, Try.func18, by kernel_rfl, by kernel_rfl, by kernel_rfl, by kernel_rfl, by kernel_rfl⟩
/-! #### skylightlaw34.quiet -/
def o19_1 : List AOper := [⟨some 2, .box (.tmp 0), none⟩,
  ⟨some 4, .mv (.const (.bool false)), none⟩]
def o19_4 : List AOper := [⟨some 5, .mv (.const (.int .i64 0)), none⟩]
def o19_9 : List AOper := [⟨some 6, .mv (.tmp 5), none⟩,
  ⟨some 7, .mv (.tmp 1), none⟩,
  ⟨some 8, .len (.tmp 7), none⟩,
  ⟨some 9, .bin .lss (.tmp 6) (.tmp 8), none⟩]
def o19_16 : List AOper := [⟨some 12, .mv (.tmp 1), none⟩,
  ⟨some 13, .mv (.tmp 5), none⟩,
  ⟨some 14, .indexAddr 1 (.tmp 12) (.tmp 13), none⟩,
  ⟨some 15, .load false [.ptr] (.tmp 14), none⟩,
  ⟨some 16, .call false (.func 32) [.tmp 15] [(false, [.bool])] true, none⟩,
  ⟨some 17, .mv (.tmp 16), none⟩,
  ⟨some 18, .mv (.tmp 1), some (17, true)⟩,
  ⟨some 19, .mv (.tmp 5), some (17, true)⟩,
  ⟨some 20, .indexAddr 1 (.tmp 18) (.tmp 19), some (17, true)⟩,
  ⟨some 21, .load false [.ptr] (.tmp 20), some (17, true)⟩,
  ⟨some 22, .call false (.func 33) [.tmp 21] [(false, [.bool])] true, some (17, true)⟩,
  ⟨some 23, .un .not (.tmp 22), some (17, true)⟩,
  ⟨some 24, .pick (.tmp 17) (.tmp 23) (.const (.bool false)), none⟩]
def o19_19 : List AOper := [⟨some 4, .mv (.const (.bool false)), none⟩]
def o19_22 : List AOper := [⟨some 10, .mv (.tmp 5), none⟩,
  ⟨some 11, .bin .add (.tmp 10) (.const (.int .i64 1)), none⟩,
  ⟨some 5, .mv (.tmp 11), none⟩]
def c19_22 : ACode := .ops o19_22
def b19_6 : ACode := .post (.seq (.seq (.ops o19_9) (.cond (.tmp 9) (.skip) (.exit 0))) (.seq (.block 1 (.seq (.ops o19_16) (.cond (.tmp 24) (.seq (.ops o19_19) (.ret)) (.skip)))) (.clear zl39 c19_22))) zl39
def o19_24 : List AOper := [⟨some 25, .fieldAddr 1 (.tmp 2), none⟩,
  ⟨some 26, .load false [.int .i64] (.tmp 25), none⟩,
  ⟨some 27, .bin .gtr (.tmp 26) (.const (.int .i64 0)), none⟩,
  ⟨some 4, .mv (.tmp 27), none⟩]
def c19_23 : ACode := .seq (.ops o19_24) (.ret)
def c19_0 : ACode := .seq (.ops o19_1) (.seq (.seq (.ops o19_4) (.block 0 (.clear zl39 (.loop b19_6)))) (.clear zl40 c19_23))
def a19 : AFun := ⟨28, [.tmp 4], c19_0⟩
theorem ok19 : OkFun Try.prog 19 a19 := ⟨Try.f19, Try.f19.body.getD .skip, Try.func19, by kernel_rfl, by kernel_rfl, by kernel_rfl, by kernel_rfl, by kernel_rfl⟩
/-! #### peek.Peek.Film -/
def o20_1 : List AOper := [⟨some 2, .mv (.const (.slice none 0 0)), none⟩,
  ⟨some 3, .mv (.const (.int .i64 0)), none⟩]
def o20_5 : List AOper := [⟨some 5, .mv (.tmp 0), none⟩,
  ⟨some 6, .call false (.func 15) [.tmp 5] [(false, [.bool])] true, none⟩,
  ⟨some 7, .un .not (.tmp 6), none⟩,
  ⟨some 4, .mv (.tmp 7), none⟩]
def o20_8 : List AOper := [⟨some 2, .mv (.const (.slice none 0 0)), none⟩,
  ⟨some 3, .mv (.const (.int .i64 13)), none⟩]
def o20_11 : List AOper := [⟨some 9, .mv (.tmp 0), none⟩,
  ⟨some 10, .nilCheck (.tmp 9), none⟩,
  ⟨some 11, .fieldAddr 8 (.tmp 10), none⟩,
  ⟨some 12, .load false [.int .i64] (.tmp 11), none⟩,
  ⟨some 13, .bin .neq (.tmp 12) (.const (.int .i64 0)), none⟩,
  ⟨some 8, .mv (.tmp 13), none⟩]
def o20_14 : List (AOper × Option Nat) := [(⟨some 14, .mv (.tmp 0), none⟩, none),
  (⟨some 15, .nilCheck (.tmp 14), none⟩, none),
  (⟨some 16, .fieldAddr 8 (.tmp 15), none⟩, none),
  (⟨some 17, .load false [.int .i64] (.tmp 16), none⟩, none),
  (⟨some 2, .mv (.const (.slice none 0 0)), none⟩, none),
  (⟨some 3, .mv (.tmp 17), none⟩, none)]
def o20_18 : List AOper := [⟨some 18, .mv (.tmp 0), none⟩,
  ⟨some 19, .nilCheck (.tmp 18), none⟩,
  ⟨some 20, .fieldAddr 7 (.tmp 19), none⟩,
  ⟨some 21, .load false [.slice] (.tmp 20), none⟩,
  ⟨some 22, .call false (.func 47) [.tmp 21] [(false, [.slice])] true, none⟩,
  ⟨some 2, .mv (.tmp 22), none⟩,
  ⟨some 3, .mv (.const (.int .i64 0)), none⟩]
def c20_17 : ACode := .seq (.ops o20_18) (.ret)
def c20_0 : ACode := .seq (.ops o20_1) (.seq (.block 0 (.seq (.ops o20_5) (.cond (.tmp 4) (.seq (.ops o20_8) (.ret)) (.seq (.ops o20_11) (.cond (.tmp 8) (.seq (.draw [] 0 o20_14 []) (.ret)) (.skip)))))) (.clear zl41 c20_17))
def a20 : AFun := ⟨23, [.tmp 2, .tmp 3], c20_0⟩
theorem ok20 : OkFun Try.prog 20 a20 := ⟨Try.f20, Try.f20.body.getD .skip, Try.func20, by kernel_rfl, by kernel_rfl, by kernel_rfl, by kernel_rfl, by kernel_rfl⟩
/-! #### peek.Peek.Tries -/
def o21_1 : List AOper := [⟨some 2, .mv (.const (.int .i64 0)), none⟩]
def o21_4 : List AOper := [⟨some 3, .mv (.tmp 0), none⟩,
  ⟨some 4, .eqNil 0 false (.tmp 3), none⟩]
def o21_7 : List AOper := [⟨some 2, .mv (.const (.int .i64 0)), none⟩]
def o21_11 : List AOper := [⟨some 5, .mv (.tmp 0), none⟩,
  ⟨some 6, .nilCheck (.tmp 5), none⟩,
  ⟨some 7, .fieldAddr 3 (.tmp 6), none⟩,
  ⟨some 8, .load false [.int .i64] (.tmp 7), none⟩,
  ⟨some 2, .mv (.tmp 8), none⟩]
def c21_0 : ACode := .seq (.ops o21_1) (.seq (.seq (.ops o21_4) (.cond (.tmp 4) (.seq (.ops o21_7) (.ret)) (.skip))) (.seq (.ops o21_11) (.ret)))
def a21 : AFun := ⟨9, [.tmp 2], c21_0⟩
theorem ok21 : OkFun Try.prog 21 a21 := ⟨Try.f21, Try.f21.body.getD .skip, Try.func21, by kernel_rfl, by kernel_rfl, by kernel_rfl, by kernel_rfl, by kernel_rfl⟩
/-! #### skylightlaw34.whole -/
def o22_1 : List AOper := [⟨some 5, .box (.tmp 0), none⟩,
  ⟨some 10, .mv (.const (.bool false)), none⟩]
def o22_4 : List AOper := [⟨some 11, .mv (.const (.int .i64 0)), none⟩]
def o22_9 : List AOper := [⟨some 19, .mv (.tmp 11), none⟩,
  ⟨some 20, .bin .lss (.tmp 19) (.const (.int .i64 64)), none⟩]
def o22_17 : List AOper := [⟨some 23, .mv (.tmp 11), none⟩,
  ⟨some 24, .mv (.tmp 3), none⟩,
  ⟨some 25, .bin .and (.tmp 23) (.tmp 24), none⟩,
  ⟨some 26, .mv (.tmp 3), none⟩,
  ⟨some 27, .bin .neq (.tmp 25) (.tmp 26), none⟩,
  ⟨some 28, .mv (.tmp 27), none⟩,
  ⟨some 29, .mv (.tmp 11), some (28, false)⟩,
  ⟨some 30, .mv (.tmp 4), some (28, false)⟩,
  ⟨some 31, .bin .and (.tmp 29) (.tmp 30), some (28, false)⟩,
  ⟨some 32, .bin .neq (.tmp 31) (.const (.int .i64 0)), some (28, false)⟩,
  ⟨some 33, .pick (.tmp 28) (.const (.bool true)) (.tmp 32), none⟩]
def o22_22 : List AOper := [⟨some 34, .fieldAddr 0 (.tmp 5), none⟩,
  ⟨some 35, .load false [.int .i64] (.tmp 34), none⟩,
  ⟨some 36, .makeSlice 3 24 [.int .u64 0, .int .u64 0, .int .u64 0] (.tmp 35) (.tmp 35), none⟩,
  ⟨some 12, .mv (.tmp 36), none⟩]
def o22_25 : List AOper := [⟨some 13, .mv (.const (.int .i64 0)), none⟩]
def o22_30 : List AOper := [⟨some 37, .mv (.tmp 13), none⟩,
  ⟨some 38, .mv (.tmp 1), none⟩,
  ⟨some 39, .len (.tmp 38), none⟩,
  ⟨some 40, .bin .lss (.tmp 37) (.tmp 39), none⟩]
def o22_37 : List (AOper × Option Nat) := [(⟨some 44, .load true [.int .i64, .int .i64] (.tmp 5), none⟩, none),
  (⟨some 45, .mv (.tmp 1), none⟩, none),
  (⟨some 46, .mv (.tmp 13), none⟩, none),
  (⟨some 47, .indexAddr 2 (.tmp 45) (.tmp 46), none⟩, none),
  (⟨some 48, .fieldAddr 0 (.tmp 47), none⟩, none),
  (⟨some 49, .load false [.int .i64] (.tmp 48), none⟩, none),
  (⟨some 50, .mv (.tmp 1), none⟩, none),
  (⟨some 51, .mv (.tmp 13), none⟩, none),
  (⟨some 52, .indexAddr 2 (.tmp 50) (.tmp 51), none⟩, none),
  (⟨some 53, .fieldAddr 1 (.tmp 52), none⟩, none),
  (⟨some 54, .load false [.slice] (.tmp 53), none⟩, none),
  (⟨some 55, .call false (.func 25) [.tmp 44, .tmp 49, .tmp 54] [(true, [.int .i64, .slice, .int .i64, .bool, .int .u64, .int .i64]), (false, [.bool])] false, none⟩, none),
  (⟨some 43, .mv (.tmp 55), none⟩, none),
  (⟨some 56, .extract (.tmp 43) 0, none⟩, none),
  (⟨some 57, .extract (.tmp 43) 1, none⟩, none),
  (⟨some 14, .nilCheck (.tmp 14), none⟩, none),
  (⟨none, .store 6 (.tmp 14) (.tmp 56), none⟩, none),
  (⟨some 15, .mv (.tmp 57), none⟩, none)]
def f22_37 : List AOper := [⟨some 14, .alloc [.int .i64 0, .slice none 0 0, .int .i64 0, .bool false, .int .u64 0, .int .i64 0], none⟩]
def o22_40 : List AOper := [⟨some 58, .mv (.tmp 15), none⟩,
  ⟨some 59, .un .not (.tmp 58), none⟩,
  ⟨some 60, .mv (.tmp 59), none⟩,
  ⟨some 61, .mv (.tmp 11), some (60, false)⟩,
  ⟨some 62, .mv (.tmp 13), some (60, false)⟩,
  ⟨some 63, .bin .shr (.tmp 61) (.tmp 62), some (60, false)⟩,
  ⟨some 64, .bin .and (.tmp 63) (.const (.int .i64 1)), some (60, false)⟩,
  ⟨some 65, .bin .eql (.tmp 64) (.const (.int .i64 0)), some (60, false)⟩,
  ⟨some 66, .pick (.tmp 60) (.const (.bool true)) (.tmp 65), none⟩]
def c22_41 : ACode := .cond (.tmp 66) (.exit 3) (.skip)
def o22_45 : List AOper := [⟨some 16, .mv (.const (.int .i64 0)), none⟩]
def o22_50 : List AOper := [⟨some 67, .mv (.tmp 16), none⟩,
  ⟨some 68, .mv (.tmp 1), none⟩,
  ⟨some 69, .mv (.tmp 13), none⟩,
  ⟨some 70, .indexAddr 2 (.tmp 68) (.tmp 69), none⟩,
  ⟨some 71, .fieldAddr 1 (.tmp 70), none⟩,
  ⟨some 72, .load false [.slice] (.tmp 71), none⟩,
  ⟨some 73, .len (.tmp 72), none⟩,
  ⟨some 74, .bin .lss (.tmp 67) (.tmp 73), none⟩]
def o22_57 : List AOper := [⟨some 77, .mv (.tmp 1), none⟩,
  ⟨some 78, .mv (.tmp 13), none⟩,
  ⟨some 79, .indexAddr 2 (.tmp 77) (.tmp 78), none⟩,
  ⟨some 80, .fieldAddr 1 (.tmp 79), none⟩,
  ⟨some 81, .load false [.slice] (.tmp 80), none⟩,
  ⟨some 82, .mv (.tmp 16), none⟩,
  ⟨some 83, .indexAddr 4 (.tmp 81) (.tmp 82), none⟩,
  ⟨some 84, .load true [.int .i64, .int .u64, .int .u64, .int .u64] (.tmp 83), none⟩,
  ⟨some 17, .alloc [.int .i64 0, .int .u64 0, .int .u64 0, .int .u64 0], none⟩,
  ⟨none, .store 4 (.tmp 17) (.tmp 84), none⟩]
def o22_59 : List AOper := [⟨some 85, .mv (.tmp 12), none⟩,
  ⟨some 86, .fieldAddr 0 (.tmp 17), none⟩,
  ⟨some 87, .load false [.int .i64] (.tmp 86), none⟩,
  ⟨some 88, .indexAddr 3 (.tmp 85) (.tmp 87), none⟩,
  ⟨some 89, .load true [.int .u64, .int .u64, .int .u64] (.tmp 88), none⟩,
  ⟨some 18, .alloc [.int .u64 0, .int .u64 0, .int .u64 0], none⟩,
  ⟨none, .store 3 (.tmp 18) (.tmp 89), none⟩]
def o22_60 : List AOper := [⟨some 90, .mv (.tmp 12), none⟩,
  ⟨some 91, .fieldAddr 0 (.tmp 17), none⟩,
  ⟨some 92, .load false [.int .i64] (.tmp 91), none⟩,
  ⟨some 93, .indexArr 3 1 (.tmp 18) (.const (.int .i64 0)), none⟩,
  ⟨some 94, .load false [.int .u64] (.tmp 93), none⟩,
  ⟨some 95, .fieldAddr 1 (.tmp 17), none⟩,
  ⟨some 96, .indexArr 3 1 (.tmp 95) (.const (.int .i64 0)), none⟩,
  ⟨some 97, .load false [.int .u64] (.tmp 96), none⟩,
  ⟨some 98, .bin .add (.tmp 94) (.tmp 97), none⟩,
  ⟨some 99, .indexArr 3 1 (.tmp 18) (.const (.int .i64 1)), none⟩,
  ⟨some 100, .load false [.int .u64] (.tmp 99), none⟩,
  ⟨some 101, .fieldAddr 1 (.tmp 17), none⟩,
  ⟨some 102, .indexArr 3 1 (.tmp 101) (.const (.int .i64 1)), none⟩,
  ⟨some 103, .load false [.int .u64] (.tmp 102), none⟩,
  ⟨some 104, .bin .add (.tmp 100) (.tmp 103), none⟩,
  ⟨some 105, .indexArr 3 1 (.tmp 18) (.const (.int .i64 2)), none⟩,
  ⟨some 106, .load false [.int .u64] (.tmp 105), none⟩,
  ⟨some 107, .fieldAddr 1 (.tmp 17), none⟩,
  ⟨some 108, .indexArr 3 1 (.tmp 107) (.const (.int .i64 2)), none⟩,
  ⟨some 109, .load false [.int .u64] (.tmp 108), none⟩,
  ⟨some 110, .bin .add (.tmp 106) (.tmp 109), none⟩,
  ⟨some 111, .build [.int .u64 0, .int .u64 0, .int .u64 0] [(0, 1, .tmp 98), (1, 1, .tmp 104), (2, 1, .tmp 110)], none⟩,
  ⟨some 112, .indexAddr 3 (.tmp 90) (.tmp 92), none⟩,
  ⟨none, .store 3 (.tmp 112) (.tmp 111), none⟩]
def o22_61 : List AOper := [⟨some 75, .mv (.tmp 16), none⟩,
  ⟨some 76, .bin .add (.tmp 75) (.const (.int .i64 1)), none⟩,
  ⟨some 16, .mv (.tmp 76), none⟩]
def c22_61 : ACode := .ops o22_61
def b22_47 : ACode := .post (.seq (.seq (.ops o22_50) (.cond (.tmp 74) (.skip) (.exit 4))) (.seq (.block 5 (.seq (.ops o22_57) (.seq (.ops o22_59) (.ops o22_60)))) (.clear zl42 c22_61))) zl42
def o22_62 : List AOper := [⟨some 41, .mv (.tmp 13), none⟩,
  ⟨some 42, .bin .add (.tmp 41) (.const (.int .i64 1)), none⟩,
  ⟨some 13, .mv (.tmp 42), none⟩]
def c22_62 : ACode := .ops o22_62
def b22_27 : ACode := .post (.seq (.seq (.ops o22_30) (.cond (.tmp 40) (.skip) (.exit 2))) (.seq (.block 3 (.seq (.draw f22_37 0 o22_37 [(15, 11)]) (.seq (.seq (.ops o22_40) (.clear zl43 c22_41)) (.seq (.ops o22_45) (.block 4 (.clear zl42 (.loop b22_47))))))) (.clear zl44 c22_62))) zl44
def o22_64 : List AOper := [⟨some 113, .mv (.tmp 12), none⟩,
  ⟨some 114, .mv (.tmp 2), none⟩,
  ⟨some 115, .call false (.func 29) [.tmp 113, .tmp 114] [(false, [.bool])] true, none⟩]
def o22_67 : List AOper := [⟨some 10, .mv (.const (.bool true)), none⟩]
def c22_63 : ACode := .seq (.ops o22_64) (.cond (.tmp 115) (.seq (.ops o22_67) (.ret)) (.skip))
def o22_70 : List AOper := [⟨some 21, .mv (.tmp 11), none⟩,
  ⟨some 22, .bin .add (.tmp 21) (.const (.int .i64 1)), none⟩,
  ⟨some 11, .mv (.tmp 22), none⟩]
def c22_70 : ACode := .ops o22_70
def b22_6 : ACode := .post (.seq (.seq (.ops o22_9) (.cond (.tmp 20) (.skip) (.exit 0))) (.seq (.block 1 (.seq (.seq (.ops o22_17) (.cond (.tmp 33) (.exit 1) (.skip))) (.seq (.ops o22_22) (.seq (.seq (.ops o22_25) (.block 2 (.clear zl44 (.loop b22_27)))) (.clear zl45 c22_63))))) (.clear zl46 c22_70))) zl46
def o22_72 : List AOper := [⟨some 10, .mv (.const (.bool false)), none⟩]
def c22_71 : ACode := .seq (.ops o22_72) (.ret)
def c22_0 : ACode := .seq (.ops o22_1) (.seq (.seq (.ops o22_4) (.block 0 (.clear zl46 (.loop b22_6)))) (.clear zl47 c22_71))
def a22 : AFun := ⟨116, [.tmp 10], c22_0⟩
theorem ok22 : OkFun Try.prog 22 a22 := ⟨Try.f22, Try.f22.body.getD .skip, Try.func22, by kernel_rfl, by kernel_rfl, by kernel_rfl, by kernel_rfl, by kernel_rfl⟩
/-! #### skylightref30.New -/
def o23_1 : List AOper := [⟨some 2, .alloc [.slice none 0 0, .int .i64 0, .int .i64 0], none⟩,
  ⟨some 3, .mv (.const (.bool false)), none⟩]
def o23_4 : List AOper := [⟨some 4, .mv (.tmp 0), none⟩,
  ⟨some 5, .bin .lss (.tmp 4) (.const (.int .i64 0)), none⟩,
  ⟨some 6, .mv (.tmp 5), none⟩,
  ⟨some 7, .mv (.tmp 0), some (6, false)⟩,
  ⟨some 8, .bin .gtr (.tmp 7) (.const (.int .i64 262144)), some (6, false)⟩,
  ⟨some 9, .pick (.tmp 6) (.const (.bool true)) (.tmp 8), none⟩]
def o23_7 : List AOper := [⟨some 10, .build [.slice none 0 0, .int .i64 0, .int .i64 0] [], none⟩,
  ⟨none, .store 3 (.tmp 2) (.tmp 10), none⟩,
  ⟨some 3, .mv (.const (.bool false)), none⟩]
def o23_11 : List AOper := [⟨some 11, .mv (.tmp 0), none⟩,
  ⟨some 12, .makeSlice 1 8 [.int .u64 0] (.tmp 11) (.tmp 11), none⟩,
  ⟨some 13, .build [.slice none 0 0, .int .i64 0, .int .i64 0] [(0, 1, .tmp 12)], none⟩,
  ⟨none, .store 3 (.tmp 2) (.tmp 13), none⟩,
  ⟨some 3, .mv (.const (.bool true)), none⟩]
def c23_0 : ACode := .seq (.ops o23_1) (.seq (.seq (.ops o23_4) (.cond (.tmp 9) (.seq (.ops o23_7) (.ret)) (.skip))) (.seq (.ops o23_11) (.ret)))
def a23 : AFun := ⟨14, [.cell true [.slice, .int .i64, .int .i64] 2, .tmp 3], c23_0⟩
theorem ok23 : OkFun Try.prog 23 a23 := ⟨Try.f23, Try.f23.body.getD .skip, Try.func23, by kernel_rfl, by kernel_rfl, by kernel_rfl, by kernel_rfl, by kernel_rfl⟩
/-! #### skylightref34.New -/
def o24_1 : List AOper := [⟨some 2, .box (.tmp 0), none⟩,
  ⟨some 4, .alloc [.int .i64 0, .int .i64 0, .int .i64 0, .int .i64 0, .slice none 0 0, .int .i64 0], none⟩,
  ⟨some 5, .mv (.const (.bool false)), none⟩]
def o24_4 : List AOper := [⟨some 6, .load true [.int .i64, .int .i64] (.tmp 2), none⟩,
  ⟨some 7, .call true (.func 6) [.tmp 6] [(false, [.bool])] true, none⟩,
  ⟨some 8, .un .not (.tmp 7), none⟩,
  ⟨some 9, .mv (.tmp 8), none⟩,
  ⟨some 10, .mv (.tmp 1), some (9, false)⟩,
  ⟨some 11, .bin .lss (.tmp 10) (.const (.int .i64 1)), some (9, false)⟩,
  ⟨some 12, .pick (.tmp 9) (.const (.bool true)) (.tmp 11), none⟩,
  ⟨some 13, .mv (.tmp 12), none⟩,
  ⟨some 14, .mv (.tmp 1), some (13, false)⟩,
  ⟨some 15, .bin .gtr (.tmp 14) (.const (.int .i64 1000)), some (13, false)⟩,
  ⟨some 16, .pick (.tmp 13) (.const (.bool true)) (.tmp 15), none⟩]
def o24_7 : List AOper := [⟨some 17, .build [.int .i64 0, .int .i64 0, .int .i64 0, .int .i64 0, .slice none 0 0, .int .i64 0] [(5, 1, .const (.int .i64 13))], none⟩,
  ⟨none, .store 6 (.tmp 4) (.tmp 17), none⟩,
  ⟨some 5, .mv (.const (.bool false)), none⟩]
def o24_11 : List AOper := [⟨some 18, .load true [.int .i64, .int .i64] (.tmp 2), none⟩,
  ⟨some 19, .mv (.tmp 1), none⟩,
  ⟨some 20, .build [.int .i64 0, .int .i64 0, .int .i64 0, .int .i64 0, .slice none 0 0, .int .i64 0] [(0, 2, .tmp 18), (2, 1, .tmp 19), (5, 1, .const (.int .i64 13))], none⟩,
  ⟨none, .store 6 (.tmp 4) (.tmp 20), none⟩,
  ⟨some 5, .mv (.const (.bool true)), none⟩]
def c24_0 : ACode := .seq (.ops o24_1) (.seq (.seq (.ops o24_4) (.cond (.tmp 16) (.seq (.ops o24_7) (.ret)) (.skip))) (.seq (.ops o24_11) (.ret)))
def a24 : AFun := ⟨21, [.cell true [.int .i64, .int .i64, .int .i64, .int .i64, .slice, .int .i64] 4, .tmp 5], c24_0⟩
theorem ok24 : OkFun Try.prog 24 a24 := ⟨Try.f24, Try.f24.body.getD .skip, Try.func24, by kernel_rfl, by kernel_rfl, by kernel_rfl, by kernel_rfl, by kernel_rfl⟩
/-! #### skylightref33.New -/
def o25_1 : List AOper := [⟨some 3, .box (.tmp 0), none⟩,
  ⟨some 6, .alloc [.int .i64 0, .slice none 0 0, .int .i64 0, .bool false, .int .u64 0, .int .i64 0], none⟩,
  ⟨some 7, .mv (.const (.bool false)), none⟩]
def o25_4 : List AOper := [⟨some 10, .load true [.int .i64, .int .i64] (.tmp 3), none⟩,
  ⟨some 11, .call true (.func 6) [.tmp 10] [(false, [.bool])] true, none⟩,
  ⟨some 12, .un .not (.tmp 11), none⟩,
  ⟨some 13, .mv (.tmp 12), none⟩,
  ⟨some 14, .mv (.tmp 1), some (13, false)⟩,
  ⟨some 15, .bin .lss (.tmp 14) (.const (.int .i64 0)), some (13, false)⟩,
  ⟨some 16, .pick (.tmp 13) (.const (.bool true)) (.tmp 15), none⟩,
  ⟨some 17, .mv (.tmp 16), none⟩,
  ⟨some 18, .mv (.tmp 1), some (17, false)⟩,
  ⟨some 19, .fieldAddr 1 (.tmp 3), some (17, false)⟩,
  ⟨some 20, .load false [.int .i64] (.tmp 19), some (17, false)⟩,
  ⟨some 21, .bin .geq (.tmp 18) (.tmp 20), some (17, false)⟩,
  ⟨some 22, .pick (.tmp 17) (.const (.bool true)) (.tmp 21), none⟩,
  ⟨some 23, .mv (.tmp 22), none⟩,
  ⟨some 24, .mv (.tmp 2), some (23, false)⟩,
  ⟨some 25, .len (.tmp 24), some (23, false)⟩,
  ⟨some 26, .bin .gtr (.tmp 25) (.const (.int .i64 4096)), some (23, false)⟩,
  ⟨some 27, .pick (.tmp 23) (.const (.bool true)) (.tmp 26), none⟩]
def o25_7 : List AOper := [⟨some 28, .build [.int .i64 0, .slice none 0 0, .int .i64 0, .bool false, .int .u64 0, .int .i64 0] [], none⟩,
  ⟨none, .store 6 (.tmp 6) (.tmp 28), none⟩,
  ⟨some 7, .mv (.const (.bool false)), none⟩]
def o25_12 : List AOper := [⟨some 8, .mv (.const (.int .i64 0)), none⟩]
def o25_17 : List AOper := [⟨some 29, .mv (.tmp 8), none⟩,
  ⟨some 30, .mv (.tmp 2), none⟩,
  ⟨some 31, .len (.tmp 30), none⟩,
  ⟨some 32, .bin .lss (.tmp 29) (.tmp 31), none⟩]
def o25_24 : List (AOper × Option Nat) := [(⟨some 35, .mv (.tmp 2), none⟩, none),
  (⟨some 36, .mv (.tmp 8), none⟩, none),
  (⟨some 37, .indexAddr 4 (.tmp 35) (.tmp 36), none⟩, none),
  (⟨some 38, .fieldAddr 0 (.tmp 37), none⟩, none),
  (⟨some 39, .load false [.int .i64] (.tmp 38), none⟩, none),
  (⟨some 40, .bin .lss (.tmp 39) (.const (.int .i64 0)), none⟩, none),
  (⟨some 41, .mv (.tmp 40), none⟩, none),
  (⟨some 42, .mv (.tmp 2), some (41, false)⟩, none),
  (⟨some 43, .mv (.tmp 8), some (41, false)⟩, none),
  (⟨some 44, .indexAddr 4 (.tmp 42) (.tmp 43), some (41, false)⟩, none),
  (⟨some 45, .fieldAddr 0 (.tmp 44), some (41, false)⟩, none),
  (⟨some 46, .load false [.int .i64] (.tmp 45), some (41, false)⟩, none),
  (⟨some 47, .fieldAddr 0 (.tmp 3), some (41, false)⟩, none),
  (⟨some 48, .load false [.int .i64] (.tmp 47), some (41, false)⟩, none),
  (⟨some 49, .bin .geq (.tmp 46) (.tmp 48), some (41, false)⟩, none),
  (⟨some 50, .pick (.tmp 41) (.const (.bool true)) (.tmp 49), none⟩, none),
  (⟨some 51, .mv (.tmp 50), none⟩, none),
  (⟨some 52, .mv (.tmp 2), some (51, false)⟩, none),
  (⟨some 53, .mv (.tmp 8), some (51, false)⟩, none),
  (⟨some 54, .indexAddr 4 (.tmp 52) (.tmp 53), some (51, false)⟩, none),
  (⟨some 55, .fieldAddr 0 (.tmp 54), some (51, false)⟩, none),
  (⟨some 56, .load false [.int .i64] (.tmp 55), some (51, false)⟩, none),
  (⟨some 57, .fieldAddr 1 (.tmp 3), some (51, false)⟩, none),
  (⟨some 58, .load false [.int .i64] (.tmp 57), some (51, false)⟩, none),
  (⟨some 59, .bin .rem (.tmp 56) (.tmp 58), some (51, false)⟩, none),
  (⟨some 60, .mv (.tmp 1), some (51, false)⟩, none),
  (⟨some 61, .bin .neq (.tmp 59) (.tmp 60), some (51, false)⟩, none),
  (⟨some 62, .pick (.tmp 51) (.const (.bool true)) (.tmp 61), none⟩, none)]
def o25_27 : List AOper := [⟨some 63, .build [.int .i64 0, .slice none 0 0, .int .i64 0, .bool false, .int .u64 0, .int .i64 0] [], none⟩,
  ⟨none, .store 6 (.tmp 6) (.tmp 63), none⟩,
  ⟨some 7, .mv (.const (.bool false)), none⟩]
def o25_30 : List AOper := [⟨some 33, .mv (.tmp 8), none⟩,
  ⟨some 34, .bin .add (.tmp 33) (.const (.int .i64 1)), none⟩,
  ⟨some 8, .mv (.tmp 34), none⟩]
def c25_30 : ACode := .ops o25_30
def b25_14 : ACode := .post (.seq (.seq (.ops o25_17) (.cond (.tmp 32) (.skip) (.exit 0))) (.seq (.block 1 (.seq (.draw [] 0 o25_24 []) (.cond (.tmp 62) (.seq (.ops o25_27) (.ret)) (.skip)))) (.clear zl48 c25_30))) zl48
def o25_32 : List AOper := [⟨some 64, .load true [.int .i64, .int .i64] (.tmp 3), none⟩,
  ⟨some 65, .mv (.tmp 1), none⟩,
  ⟨some 66, .mv (.tmp 2), none⟩,
  ⟨some 67, .call false (.func 48) [.tmp 64, .tmp 65, .tmp 66] [(false, [.slice])] true, none⟩,
  ⟨some 9, .mv (.tmp 67), none⟩]
def o25_34 : List AOper := [⟨some 68, .load true [.int .i64, .int .i64] (.tmp 3), none⟩,
  ⟨some 69, .call true (.func 10) [.tmp 68] [(false, [.int .i64])] true, none⟩,
  ⟨some 70, .mv (.tmp 9), none⟩,
  ⟨some 71, .mv (.tmp 9), none⟩,
  ⟨some 72, .len (.tmp 71), none⟩,
  ⟨some 73, .build [.int .i64 0, .slice none 0 0, .int .i64 0, .bool false, .int .u64 0, .int .i64 0] [(0, 1, .tmp 69), (1, 1, .tmp 70), (2, 1, .tmp 72)], none⟩,
  ⟨none, .store 6 (.tmp 6) (.tmp 73), none⟩,
  ⟨some 7, .mv (.const (.bool true)), none⟩]
def c25_31 : ACode := .seq (.ops o25_32) (.seq (.ops o25_34) (.ret))
def c25_0 : ACode := .seq (.ops o25_1) (.seq (.seq (.ops o25_4) (.cond (.tmp 27) (.seq (.ops o25_7) (.ret)) (.skip))) (.seq (.seq (.ops o25_12) (.block 0 (.clear zl48 (.loop b25_14)))) (.clear zl49 c25_31)))
def a25 : AFun := ⟨74, [.cell true [.int .i64, .slice, .int .i64, .bool, .int .u64, .int .i64] 6, .tmp 7], c25_0⟩
theorem ok25 : OkFun Try.prog 25 a25 := ⟨Try.f25, Try.f25.body.getD .skip, Try.func25, by kernel_rfl, by kernel_rfl, by kernel_rfl, by kernel_rfl, by kernel_rfl⟩
/-! #### skylightref33.Flush.Step -/
def o26_1 : List AOper := [⟨some 4, .mv (.const (.bool false)), none⟩]
def o26_4 : List (AOper × Option Nat) := [(⟨some 8, .mv (.tmp 0), none⟩, none),
  (⟨some 9, .nilCheck (.tmp 8), none⟩, none),
  (⟨some 10, .fieldAddr 1 (.tmp 9), none⟩, none),
  (⟨some 11, .load false [.slice] (.tmp 10), none⟩, none),
  (⟨some 12, .len (.tmp 11), none⟩, none),
  (⟨some 13, .bin .eql (.tmp 12) (.const (.int .i64 0)), none⟩, none),
  (⟨some 14, .mv (.tmp 13), none⟩, none),
  (⟨some 15, .mv (.tmp 1), some (14, false)⟩, none),
  (⟨some 16, .nilCheck (.tmp 15), some (14, false)⟩, none),
  (⟨some 17, .fieldAddr 0 (.tmp 16), some (14, false)⟩, none),
  (⟨some 18, .load false [.slice] (.tmp 17), some (14, false)⟩, none),
  (⟨some 19, .len (.tmp 18), some (14, false)⟩, none),
  (⟨some 20, .mv (.tmp 0), some (14, false)⟩, none),
  (⟨some 21, .nilCheck (.tmp 20), some (14, false)⟩, none),
  (⟨some 22, .fieldAddr 0 (.tmp 21), some (14, false)⟩, none),
  (⟨some 23, .load false [.int .i64] (.tmp 22), some (14, false)⟩, none),
  (⟨some 24, .bin .neq (.tmp 19) (.tmp 23), some (14, false)⟩, none),
  (⟨some 25, .pick (.tmp 14) (.const (.bool true)) (.tmp 24), none⟩, none)]
def o26_7 : List AOper := [⟨some 4, .mv (.const (.bool false)), none⟩]
def o26_11 : List AOper := [⟨some 26, .mv (.tmp 0), none⟩,
  ⟨some 27, .nilCheck (.tmp 26), none⟩,
  ⟨some 28, .fieldAddr 1 (.tmp 27), none⟩,
  ⟨some 29, .load false [.slice] (.tmp 28), none⟩,
  ⟨some 30, .indexAddr 2 (.tmp 29) (.const (.int .i64 0)), none⟩,
  ⟨some 31, .load true [.int .i64, .int .u64] (.tmp 30), none⟩,
  ⟨some 5, .alloc [.int .i64 0, .int .u64 0], none⟩,
  ⟨none, .store 2 (.tmp 5) (.tmp 31), none⟩]
def o26_14 : List AOper := [⟨some 32, .mv (.tmp 0), none⟩,
  ⟨some 33, .nilCheck (.tmp 32), none⟩,
  ⟨some 34, .fieldAddr 3 (.tmp 33), none⟩,
  ⟨some 35, .load false [.bool] (.tmp 34), none⟩,
  ⟨some 36, .un .not (.tmp 35), none⟩]
def o26_17 : List AOper := [⟨some 38, .mv (.tmp 1), none⟩,
  ⟨some 39, .fieldAddr 0 (.tmp 5), none⟩,
  ⟨some 40, .load false [.int .i64] (.tmp 39), none⟩,
  ⟨some 41, .call false (.func 49) [.tmp 38, .tmp 40] [(false, [.int .u64]), (false, [.bool])] false, none⟩,
  ⟨some 37, .mv (.tmp 41), none⟩,
  ⟨some 42, .extract (.tmp 37) 0, none⟩,
  ⟨some 43, .extract (.tmp 37) 1, none⟩,
  ⟨some 6, .mv (.tmp 42), none⟩,
  ⟨some 7, .mv (.tmp 43), none⟩]
def o26_19 : List AOper := [⟨some 44, .mv (.tmp 0), none⟩,
  ⟨some 45, .mv (.tmp 6), none⟩,
  ⟨some 46, .nilCheck (.tmp 44), none⟩,
  ⟨some 47, .fieldAddr 4 (.tmp 46), none⟩,
  ⟨none, .store 1 (.tmp 47) (.tmp 45), none⟩]
def o26_21 : List AOper := [⟨some 48, .mv (.tmp 0), none⟩,
  ⟨some 49, .mv (.tmp 7), none⟩,
  ⟨some 50, .nilCheck (.tmp 48), none⟩,
  ⟨some 51, .fieldAddr 3 (.tmp 50), none⟩,
  ⟨none, .store 1 (.tmp 51) (.tmp 49), none⟩]
def o26_23 : List AOper := [⟨some 4, .mv (.const (.bool true)), none⟩]
def o26_27 : List AOper := [⟨some 52, .mv (.tmp 0), none⟩,
  ⟨some 53, .nilCheck (.tmp 52), none⟩,
  ⟨some 54, .fieldAddr 3 (.tmp 53), none⟩,
  ⟨none, .store 1 (.tmp 54) (.const (.bool false)), none⟩]
def o26_30 : List (AOper × Option Nat) := [(⟨some 55, .mv (.tmp 1), none⟩, none),
  (⟨some 56, .fieldAddr 0 (.tmp 5), none⟩, none),
  (⟨some 57, .load false [.int .i64] (.tmp 56), none⟩, none),
  (⟨some 58, .mv (.tmp 0), none⟩, none),
  (⟨some 59, .nilCheck (.tmp 58), none⟩, none),
  (⟨some 60, .fieldAddr 4 (.tmp 59), none⟩, none),
  (⟨some 61, .load false [.int .u64] (.tmp 60), none⟩, none),
  (⟨some 62, .mv (.tmp 0), none⟩, none),
  (⟨some 63, .nilCheck (.tmp 62), none⟩, none),
  (⟨some 64, .fieldAddr 4 (.tmp 63), none⟩, none),
  (⟨some 65, .load false [.int .u64] (.tmp 64), none⟩, none),
  (⟨some 66, .fieldAddr 1 (.tmp 5), none⟩, none),
  (⟨some 67, .load false [.int .u64] (.tmp 66), none⟩, none),
  (⟨some 68, .bin .add (.tmp 65) (.tmp 67), none⟩, none),
  (⟨some 69, .call false (.func 50) [.tmp 55, .tmp 57, .tmp 61, .tmp 68] [(false, [.bool])] true, none⟩, none)]
def o26_32 : List AOper := [⟨some 70, .mv (.tmp 0), none⟩,
  ⟨some 71, .mv (.tmp 0), none⟩,
  ⟨some 72, .nilCheck (.tmp 71), none⟩,
  ⟨some 73, .fieldAddr 1 (.tmp 72), none⟩,
  ⟨some 74, .load false [.slice] (.tmp 73), none⟩,
  ⟨some 75, .slice 2 (.tmp 74) (some (.const (.int .i64 1))) none, none⟩,
  ⟨some 76, .nilCheck (.tmp 70), none⟩,
  ⟨some 77, .fieldAddr 1 (.tmp 76), none⟩,
  ⟨none, .store 1 (.tmp 77) (.tmp 75), none⟩]
def o26_33 : List AOper := [⟨some 78, .mv (.tmp 0), none⟩,
  ⟨some 79, .nilCheck (.tmp 78), none⟩,
  ⟨some 80, .fieldAddr 5 (.tmp 79), none⟩,
  ⟨some 81, .load false [.int .i64] (.tmp 80), none⟩,
  ⟨some 82, .bin .add (.tmp 81) (.const (.int .i64 1)), none⟩,
  ⟨some 83, .nilCheck (.tmp 78), none⟩,
  ⟨some 84, .fieldAddr 5 (.tmp 83), none⟩,
  ⟨none, .store 1 (.tmp 84) (.tmp 82), none⟩]
def c26_31 : ACode := .cond (.tmp 69) (.ops o26_32) (.ops o26_33)
def o26_35 : List AOper := [⟨some 4, .mv (.const (.bool true)), none⟩]
def c26_34 : ACode := .seq (.ops o26_35) (.ret)
def c26_0 : ACode := .seq (.ops o26_1) (.seq (.seq (.draw [] 0 o26_4 []) (.cond (.tmp 25) (.seq (.ops o26_7) (.ret)) (.skip))) (.seq (.ops o26_11) (.seq (.seq (.ops o26_14) (.cond (.tmp 36) (.seq (.ops o26_17) (.seq (.ops o26_19) (.seq (.ops o26_21) (.seq (.ops o26_23) (.ret))))) (.skip))) (.seq (.ops o26_27) (.seq (.seq (.draw [] 0 o26_30 []) (.clear zl50 c26_31)) (.clear zl51 c26_34))))))
def a26 : AFun := ⟨85, [.tmp 4], c26_0⟩
theorem ok26 : OkFun Try.prog 26 a26 := ⟨Try.f26, Try.f26.body.getD .skip, Try.func26, by kernel_rfl, by kernel_rfl, by kernel_rfl, by kernel_rfl, by kernel_rfl⟩
/-! #### skylightref34.Peek.Step -/
def o27_1 : List AOper := [⟨some 4, .mv (.const (.bool false)), none⟩]
def o27_4 : List (AOper × Option Nat) := [(⟨some 11, .mv (.tmp 0), none⟩, none),
  (⟨some 12, .nilCheck (.tmp 11), none⟩, none),
  (⟨some 13, .fieldAddr 2 (.tmp 12), none⟩, none),
  (⟨some 14, .load false [.int .i64] (.tmp 13), none⟩, none),
  (⟨some 15, .bin .eql (.tmp 14) (.const (.int .i64 0)), none⟩, none),
  (⟨some 16, .mv (.tmp 15), none⟩, none),
  (⟨some 17, .mv (.tmp 0), some (16, false)⟩, none),
  (⟨some 18, .nilCheck (.tmp 17), some (16, false)⟩, none),
  (⟨some 19, .fieldAddr 5 (.tmp 18), some (16, false)⟩, none),
  (⟨some 20, .load false [.int .i64] (.tmp 19), some (16, false)⟩, none),
  (⟨some 21, .bin .neq (.tmp 20) (.const (.int .i64 13)), some (16, false)⟩, none),
  (⟨some 22, .pick (.tmp 16) (.const (.bool true)) (.tmp 21), none⟩, none),
  (⟨some 23, .mv (.tmp 22), none⟩, none),
  (⟨some 24, .mv (.tmp 1), some (23, false)⟩, none),
  (⟨some 25, .nilCheck (.tmp 24), some (23, false)⟩, none),
  (⟨some 26, .fieldAddr 0 (.tmp 25), some (23, false)⟩, none),
  (⟨some 27, .load false [.slice] (.tmp 26), some (23, false)⟩, none),
  (⟨some 28, .len (.tmp 27), some (23, false)⟩, none),
  (⟨some 29, .mv (.tmp 0), some (23, false)⟩, none),
  (⟨some 30, .nilCheck (.tmp 29), some (23, false)⟩, none),
  (⟨some 31, .fieldAddr 0 (.tmp 30), some (23, false)⟩, none),
  (⟨some 32, .load true [.int .i64, .int .i64] (.tmp 31), some (23, false)⟩, none),
  (⟨some 33, .call true (.func 10) [.tmp 32] [(false, [.int .i64])] true, some (23, false)⟩, none),
  (⟨some 34, .bin .neq (.tmp 28) (.tmp 33), some (23, false)⟩, none),
  (⟨some 35, .pick (.tmp 23) (.const (.bool true)) (.tmp 34), none⟩, none)]
def o27_7 : List AOper := [⟨some 4, .mv (.const (.bool false)), none⟩]
def o27_11 : List AOper := [⟨some 37, .mv (.tmp 1), none⟩,
  ⟨some 38, .mv (.tmp 0), none⟩,
  ⟨some 39, .mv (.tmp 0), none⟩,
  ⟨some 40, .nilCheck (.tmp 39), none⟩,
  ⟨some 41, .fieldAddr 4 (.tmp 40), none⟩,
  ⟨some 42, .load false [.slice] (.tmp 41), none⟩,
  ⟨some 43, .len (.tmp 42), none⟩,
  ⟨some 44, .call false (.func 51) [.tmp 38, .tmp 43] [(false, [.int .i64])] true, none⟩,
  ⟨some 45, .call false (.func 49) [.tmp 37, .tmp 44] [(false, [.int .u64]), (false, [.bool])] false, none⟩,
  ⟨some 36, .mv (.tmp 45), none⟩,
  ⟨some 46, .extract (.tmp 36) 0, none⟩,
  ⟨some 47, .extract (.tmp 36) 1, none⟩,
  ⟨some 5, .mv (.tmp 46), none⟩,
  ⟨some 6, .mv (.tmp 47), none⟩]
def o27_13 : List AOper := [⟨some 48, .mv (.tmp 0), none⟩,
  ⟨some 49, .mv (.tmp 0), none⟩,
  ⟨some 50, .nilCheck (.tmp 49), none⟩,
  ⟨some 51, .fieldAddr 4 (.tmp 50), none⟩,
  ⟨some 52, .load false [.slice] (.tmp 51), none⟩,
  ⟨some 53, .mv (.tmp 5), none⟩,
  ⟨some 54, .buildSlice 1 1 [.int .u64 0] [(0, 1, .tmp 53)], none⟩,
  ⟨some 55, .append 1 8 (.tmp 52) (.tmp 54), none⟩,
  ⟨some 56, .nilCheck (.tmp 48), none⟩,
  ⟨some 57, .fieldAddr 4 (.tmp 56), none⟩,
  ⟨none, .store 1 (.tmp 57) (.tmp 55), none⟩]
def o27_15 : List (AOper × Option Nat) := [(⟨some 58, .mv (.tmp 0), none⟩, none),
  (⟨some 59, .nilCheck (.tmp 58), none⟩, none),
  (⟨some 60, .fieldAddr 0 (.tmp 59), none⟩, none),
  (⟨some 61, .fieldAddr 1 (.tmp 60), none⟩, none),
  (⟨some 62, .load false [.int .i64] (.tmp 61), none⟩, none),
  (⟨some 63, .mv (.tmp 0), none⟩, none),
  (⟨some 64, .nilCheck (.tmp 63), none⟩, none),
  (⟨some 65, .fieldAddr 0 (.tmp 64), none⟩, none),
  (⟨some 66, .fieldAddr 1 (.tmp 65), none⟩, none),
  (⟨some 67, .load false [.int .i64] (.tmp 66), none⟩, none),
  (⟨some 68, .bin .mul (.const (.int .i64 2)) (.tmp 67), none⟩, none),
  (⟨some 69, .mv (.tmp 0), none⟩, none),
  (⟨some 70, .nilCheck (.tmp 69), none⟩, none),
  (⟨some 71, .fieldAddr 0 (.tmp 70), none⟩, none),
  (⟨some 72, .fieldAddr 0 (.tmp 71), none⟩, none),
  (⟨some 73, .load false [.int .i64] (.tmp 72), none⟩, none),
  (⟨some 74, .bin .mul (.const (.int .i64 3)) (.tmp 73), none⟩, none),
  (⟨some 75, .bin .add (.tmp 68) (.tmp 74), none⟩, none),
  (⟨some 7, .mv (.tmp 62), none⟩, none),
  (⟨some 8, .mv (.tmp 75), none⟩, none)]
def o27_18 : List AOper := [⟨some 76, .mv (.tmp 0), none⟩,
  ⟨some 77, .nilCheck (.tmp 76), none⟩,
  ⟨some 78, .fieldAddr 4 (.tmp 77), none⟩,
  ⟨some 79, .load false [.slice] (.tmp 78), none⟩,
  ⟨some 80, .len (.tmp 79), none⟩,
  ⟨some 81, .mv (.tmp 8), none⟩,
  ⟨some 82, .bin .lss (.tmp 80) (.tmp 81), none⟩]
def o27_21 : List AOper := [⟨some 4, .mv (.const (.bool true)), none⟩]
def o27_25 : List AOper := [⟨some 83, .mv (.tmp 0), none⟩,
  ⟨some 84, .nilCheck (.tmp 83), none⟩,
  ⟨some 85, .fieldAddr 3 (.tmp 84), none⟩,
  ⟨some 86, .load false [.int .i64] (.tmp 85), none⟩,
  ⟨some 87, .bin .add (.tmp 86) (.const (.int .i64 1)), none⟩,
  ⟨some 88, .nilCheck (.tmp 83), none⟩,
  ⟨some 89, .fieldAddr 3 (.tmp 88), none⟩,
  ⟨none, .store 1 (.tmp 89) (.tmp 87), none⟩]
def o27_27 : List AOper := [⟨some 9, .mv (.const (.bool true)), none⟩]
def o27_30 : List AOper := [⟨some 10, .mv (.const (.int .i64 0)), none⟩]
def o27_35 : List AOper := [⟨some 90, .mv (.tmp 10), none⟩,
  ⟨some 91, .mv (.tmp 7), none⟩,
  ⟨some 92, .bin .lss (.tmp 90) (.tmp 91), none⟩]
def o27_41 : List (AOper × Option Nat) := [(⟨some 95, .mv (.tmp 9), none⟩, none),
  (⟨some 96, .mv (.tmp 95), none⟩, none),
  (⟨some 97, .mv (.tmp 0), some (96, true)⟩, none),
  (⟨some 98, .nilCheck (.tmp 97), some (96, true)⟩, none),
  (⟨some 99, .fieldAddr 4 (.tmp 98), some (96, true)⟩, none),
  (⟨some 100, .load false [.slice] (.tmp 99), some (96, true)⟩, none),
  (⟨some 101, .mv (.tmp 10), some (96, true)⟩, none),
  (⟨some 102, .indexAddr 1 (.tmp 100) (.tmp 101), some (96, true)⟩, none),
  (⟨some 103, .load false [.int .u64] (.tmp 102), some (96, true)⟩, none),
  (⟨some 104, .mv (.tmp 0), some (96, true)⟩, none),
  (⟨some 105, .nilCheck (.tmp 104), some (96, true)⟩, none),
  (⟨some 106, .fieldAddr 4 (.tmp 105), some (96, true)⟩, none),
  (⟨some 107, .load false [.slice] (.tmp 106), some (96, true)⟩, none),
  (⟨some 108, .mv (.tmp 8), some (96, true)⟩, none),
  (⟨some 109, .mv (.tmp 7), some (96, true)⟩, none),
  (⟨some 110, .bin .sub (.tmp 108) (.tmp 109), some (96, true)⟩, none),
  (⟨some 111, .mv (.tmp 10), some (96, true)⟩, none),
  (⟨some 112, .bin .add (.tmp 110) (.tmp 111), some (96, true)⟩, none),
  (⟨some 113, .indexAddr 1 (.tmp 107) (.tmp 112), some (96, true)⟩, none),
  (⟨some 114, .load false [.int .u64] (.tmp 113), some (96, true)⟩, none),
  (⟨some 115, .bin .eql (.tmp 103) (.tmp 114), some (96, true)⟩, none),
  (⟨some 116, .pick (.tmp 96) (.tmp 115) (.const (.bool false)), none⟩, none),
  (⟨some 9, .mv (.tmp 116), none⟩, none)]
def o27_42 : List AOper := [⟨some 93, .mv (.tmp 10), none⟩,
  ⟨some 94, .bin .add (.tmp 93) (.const (.int .i64 1)), none⟩,
  ⟨some 10, .mv (.tmp 94), none⟩]
def c27_42 : ACode := .ops o27_42
def b27_32 : ACode := .post (.seq (.seq (.ops o27_35) (.cond (.tmp 92) (.skip) (.exit 0))) (.seq (.block 1 (.draw [] 0 o27_41 [])) (.clear zl52 c27_42))) zl52
def o27_45 : List AOper := [⟨some 117, .mv (.tmp 9), none⟩]
def o27_47 : List AOper := [⟨some 118, .mv (.tmp 0), none⟩,
  ⟨some 119, .nilCheck (.tmp 118), none⟩,
  ⟨some 120, .fieldAddr 5 (.tmp 119), none⟩,
  ⟨none, .store 1 (.tmp 120) (.const (.int .i64 0)), none⟩]
def o27_49 : List (AOper × Option Nat) := [(⟨some 121, .mv (.tmp 0), none⟩, none),
  (⟨some 122, .nilCheck (.tmp 121), none⟩, none),
  (⟨some 123, .fieldAddr 3 (.tmp 122), none⟩, none),
  (⟨some 124, .load false [.int .i64] (.tmp 123), none⟩, none),
  (⟨some 125, .mv (.tmp 0), none⟩, none),
  (⟨some 126, .nilCheck (.tmp 125), none⟩, none),
  (⟨some 127, .fieldAddr 2 (.tmp 126), none⟩, none),
  (⟨some 128, .load false [.int .i64] (.tmp 127), none⟩, none),
  (⟨some 129, .bin .eql (.tmp 124) (.tmp 128), none⟩, none)]
def o27_51 : List AOper := [⟨some 130, .mv (.tmp 0), none⟩,
  ⟨some 131, .nilCheck (.tmp 130), none⟩,
  ⟨some 132, .fieldAddr 5 (.tmp 131), none⟩,
  ⟨none, .store 1 (.tmp 132) (.const (.int .i64 12)), none⟩]
def o27_52 : List AOper := [⟨some 133, .mv (.tmp 0), none⟩,
  ⟨some 134, .nilCheck (.tmp 133), none⟩,
  ⟨some 135, .fieldAddr 4 (.tmp 134), none⟩,
  ⟨none, .store 1 (.tmp 135) (.const (.slice none 0 0)), none⟩]
def o27_54 : List AOper := [⟨some 4, .mv (.const (.bool true)), none⟩]
def c27_53 : ACode := .seq (.ops o27_54) (.ret)
def c27_43 : ACode := .seq (.seq (.ops o27_45) (.cond (.tmp 117) (.ops o27_47) (.seq (.draw [] 0 o27_49 []) (.cond (.tmp 129) (.ops o27_51) (.ops o27_52))))) (.clear zl53 c27_53)
def c27_14 : ACode := .seq (.draw [] 0 o27_15 []) (.seq (.seq (.ops o27_18) (.cond (.tmp 82) (.seq (.ops o27_21) (.ret)) (.skip))) (.seq (.ops o27_25) (.seq (.ops o27_27) (.seq (.seq (.ops o27_30) (.block 0 (.clear zl52 (.loop b27_32)))) (.clear zl54 c27_43)))))
def c27_0 : ACode := .seq (.ops o27_1) (.seq (.seq (.draw [] 0 o27_4 []) (.cond (.tmp 35) (.seq (.ops o27_7) (.ret)) (.skip))) (.seq (.ops o27_11) (.seq (.ops o27_13) (.clear zl55 c27_14))))
def a27 : AFun := ⟨136, [.tmp 4], c27_0⟩
theorem ok27 : OkFun Try.prog 27 a27 := ⟨Try.f27, Try.f27.body.getD .skip, Try.func27, by kernel_rfl, by kernel_rfl, by kernel_rfl, by kernel_rfl, by kernel_rfl⟩
/-! #### skylightref34.Peek.Film -/
def o28_1 : List AOper := [⟨some 2, .mv (.const (.slice none 0 0)), none⟩,
  ⟨some 3, .mv (.const (.int .i64 0)), none⟩]
def o28_3 : List AOper := [⟨some 4, .mv (.const (.slice none 0 0)), none⟩]
def o28_6 : List AOper := [⟨some 5, .mv (.const (.int .i64 0)), none⟩]
def o28_11 : List AOper := [⟨some 7, .mv (.tmp 5), none⟩,
  ⟨some 8, .mv (.tmp 0), none⟩,
  ⟨some 9, .nilCheck (.tmp 8), none⟩,
  ⟨some 10, .fieldAddr 0 (.tmp 9), none⟩,
  ⟨some 11, .fieldAddr 0 (.tmp 10), none⟩,
  ⟨some 12, .load false [.int .i64] (.tmp 11), none⟩,
  ⟨some 13, .bin .lss (.tmp 7) (.tmp 12), none⟩,
  ⟨some 14, .mv (.tmp 13), none⟩,
  ⟨some 15, .mv (.tmp 0), some (14, true)⟩,
  ⟨some 16, .nilCheck (.tmp 15), some (14, true)⟩,
  ⟨some 17, .fieldAddr 5 (.tmp 16), some (14, true)⟩,
  ⟨some 18, .load false [.int .i64] (.tmp 17), some (14, true)⟩,
  ⟨some 19, .bin .eql (.tmp 18) (.const (.int .i64 0)), some (14, true)⟩,
  ⟨some 20, .pick (.tmp 14) (.tmp 19) (.const (.bool false)), none⟩]
def o28_18 : List AOper := [⟨some 23, .mv (.tmp 0), none⟩,
  ⟨some 24, .nilCheck (.tmp 23), none⟩,
  ⟨some 25, .fieldAddr 0 (.tmp 24), none⟩,
  ⟨some 26, .fieldAddr 1 (.tmp 25), none⟩,
  ⟨some 27, .load false [.int .i64] (.tmp 26), none⟩,
  ⟨some 28, .mv (.tmp 5), none⟩,
  ⟨some 29, .bin .mul (.const (.int .i64 3)) (.tmp 28), none⟩,
  ⟨some 30, .bin .add (.tmp 27) (.tmp 29), none⟩,
  ⟨some 6, .mv (.tmp 30), none⟩]
def o28_19 : List (AOper × Option Nat) := [(⟨some 31, .mv (.tmp 4), none⟩, none),
  (⟨some 32, .mv (.tmp 0), none⟩, none),
  (⟨some 33, .nilCheck (.tmp 32), none⟩, none),
  (⟨some 34, .fieldAddr 4 (.tmp 33), none⟩, none),
  (⟨some 35, .load false [.slice] (.tmp 34), none⟩, none),
  (⟨some 36, .mv (.tmp 6), none⟩, none),
  (⟨some 37, .indexAddr 1 (.tmp 35) (.tmp 36), none⟩, none),
  (⟨some 38, .load false [.int .u64] (.tmp 37), none⟩, none),
  (⟨some 39, .mv (.tmp 0), none⟩, none),
  (⟨some 40, .nilCheck (.tmp 39), none⟩, none),
  (⟨some 41, .fieldAddr 4 (.tmp 40), none⟩, none),
  (⟨some 42, .load false [.slice] (.tmp 41), none⟩, none),
  (⟨some 43, .mv (.tmp 6), none⟩, none),
  (⟨some 44, .bin .add (.tmp 43) (.const (.int .i64 1)), none⟩, none),
  (⟨some 45, .indexAddr 1 (.tmp 42) (.tmp 44), none⟩, none),
  (⟨some 46, .load false [.int .u64] (.tmp 45), none⟩, none),
  (⟨some 47, .mv (.tmp 0), none⟩, none),
  (⟨some 48, .nilCheck (.tmp 47), none⟩, none),
  (⟨some 49, .fieldAddr 4 (.tmp 48), none⟩, none),
  (⟨some 50, .load false [.slice] (.tmp 49), none⟩, none),
  (⟨some 51, .mv (.tmp 6), none⟩, none),
  (⟨some 52, .bin .add (.tmp 51) (.const (.int .i64 2)), none⟩, none),
  (⟨some 53, .indexAddr 1 (.tmp 50) (.tmp 52), none⟩, none),
  (⟨some 54, .load false [.int .u64] (.tmp 53), none⟩, none),
  (⟨some 55, .build [.int .u64 0, .int .u64 0, .int .u64 0] [(0, 1, .tmp 38), (1, 1, .tmp 46), (2, 1, .tmp 54)], none⟩, none),
  (⟨some 56, .buildSlice 3 1 [.int .u64 0, .int .u64 0, .int .u64 0] [(0, 3, .tmp 55)], none⟩, none),
  (⟨some 57, .append 3 24 (.tmp 31) (.tmp 56), none⟩, none),
  (⟨some 4, .mv (.tmp 57), none⟩, none)]
def o28_20 : List AOper := [⟨some 21, .mv (.tmp 5), none⟩,
  ⟨some 22, .bin .add (.tmp 21) (.const (.int .i64 1)), none⟩,
  ⟨some 5, .mv (.tmp 22), none⟩]
def c28_20 : ACode := .ops o28_20
def b28_8 : ACode := .post (.seq (.seq (.ops o28_11) (.cond (.tmp 20) (.skip) (.exit 0))) (.seq (.block 1 (.seq (.ops o28_18) (.draw [] 0 o28_19 []))) (.clear zl56 c28_20))) zl56
def o28_22 : List (AOper × Option Nat) := [(⟨some 58, .mv (.tmp 4), none⟩, none),
  (⟨some 59, .mv (.tmp 0), none⟩, none),
  (⟨some 60, .nilCheck (.tmp 59), none⟩, none),
  (⟨some 61, .fieldAddr 5 (.tmp 60), none⟩, none),
  (⟨some 62, .load false [.int .i64] (.tmp 61), none⟩, none),
  (⟨some 2, .mv (.tmp 58), none⟩, none),
  (⟨some 3, .mv (.tmp 62), none⟩, none)]
def c28_21 : ACode := .seq (.draw [] 0 o28_22 []) (.ret)
def c28_0 : ACode := .seq (.ops o28_1) (.seq (.ops o28_3) (.seq (.seq (.ops o28_6) (.block 0 (.clear zl56 (.loop b28_8)))) (.clear zl57 c28_21)))
def a28 : AFun := ⟨63, [.tmp 2, .tmp 3], c28_0⟩
theorem ok28 : OkFun Try.prog 28 a28 := ⟨Try.f28, Try.f28.body.getD .skip, Try.func28, by kernel_rfl, by kernel_rfl, by kernel_rfl, by kernel_rfl, by kernel_rfl⟩
/-! #### skylightlaw34.same -/
def o29_1 : List AOper := [⟨some 4, .mv (.const (.bool false)), none⟩]
def o29_4 : List AOper := [⟨some 6, .mv (.tmp 0), none⟩,
  ⟨some 7, .len (.tmp 6), none⟩,
  ⟨some 8, .mv (.tmp 1), none⟩,
  ⟨some 9, .len (.tmp 8), none⟩,
  ⟨some 10, .bin .neq (.tmp 7) (.tmp 9), none⟩]
def o29_7 : List AOper := [⟨some 4, .mv (.const (.bool false)), none⟩]
def o29_12 : List AOper := [⟨some 5, .mv (.const (.int .i64 0)), none⟩]
def o29_17 : List AOper := [⟨some 11, .mv (.tmp 5), none⟩,
  ⟨some 12, .mv (.tmp 0), none⟩,
  ⟨some 13, .len (.tmp 12), none⟩,
  ⟨some 14, .bin .lss (.tmp 11) (.tmp 13), none⟩]
def o29_24 : List (AOper × Option Nat) := [(⟨some 17, .mv (.tmp 0), none⟩, none),
  (⟨some 18, .mv (.tmp 5), none⟩, none),
  (⟨some 19, .indexAddr 3 (.tmp 17) (.tmp 18), none⟩, none),
  (⟨some 20, .load true [.int .u64, .int .u64, .int .u64] (.tmp 19), none⟩, none),
  (⟨some 21, .mv (.tmp 1), none⟩, none),
  (⟨some 22, .mv (.tmp 5), none⟩, none),
  (⟨some 23, .indexAddr 3 (.tmp 21) (.tmp 22), none⟩, none),
  (⟨some 24, .load true [.int .u64, .int .u64, .int .u64] (.tmp 23), none⟩, none),
  (⟨some 25, .eqAgg [.int .u64, .int .u64, .int .u64] true (.tmp 20) (.tmp 24), none⟩, none)]
def o29_27 : List AOper := [⟨some 4, .mv (.const (.bool false)), none⟩]
def o29_30 : List AOper := [⟨some 15, .mv (.tmp 5), none⟩,
  ⟨some 16, .bin .add (.tmp 15) (.const (.int .i64 1)), none⟩,
  ⟨some 5, .mv (.tmp 16), none⟩]
def c29_30 : ACode := .ops o29_30
def b29_14 : ACode := .post (.seq (.seq (.ops o29_17) (.cond (.tmp 14) (.skip) (.exit 0))) (.seq (.block 1 (.seq (.draw [] 0 o29_24 []) (.cond (.tmp 25) (.seq (.ops o29_27) (.ret)) (.skip)))) (.clear zl58 c29_30))) zl58
def o29_32 : List AOper := [⟨some 4, .mv (.const (.bool true)), none⟩]
def c29_31 : ACode := .seq (.ops o29_32) (.ret)
def c29_0 : ACode := .seq (.ops o29_1) (.seq (.seq (.ops o29_4) (.cond (.tmp 10) (.seq (.ops o29_7) (.ret)) (.skip))) (.seq (.seq (.ops o29_12) (.block 0 (.clear zl58 (.loop b29_14)))) (.clear zl59 c29_31)))
def a29 : AFun := ⟨26, [.tmp 4], c29_0⟩
theorem ok29 : OkFun Try.prog 29 a29 := ⟨Try.f29, Try.f29.body.getD .skip, Try.func29, by kernel_rfl, by kernel_rfl, by kernel_rfl, by kernel_rfl, by kernel_rfl⟩
/-! #### peek.Steps -/
def o30_1 : List AOper := [⟨some 1, .box (.tmp 0), none⟩,
  ⟨some 2, .mv (.const (.int .i64 0)), none⟩]
def o30_4 : List AOper := [⟨some 3, .load true [.int .i64, .int .i64] (.tmp 1), none⟩,
  ⟨some 4, .call true (.func 36) [.tmp 3] [(false, [.bool])] true, none⟩,
  ⟨some 5, .un .not (.tmp 4), none⟩]
def o30_7 : List AOper := [⟨some 2, .mv (.const (.int .i64 0)), none⟩]
def o30_11 : List AOper := [⟨some 6, .fieldAddr 1 (.tmp 1), none⟩,
  ⟨some 7, .load false [.int .i64] (.tmp 6), none⟩,
  ⟨some 8, .bin .mul (.const (.int .i64 2)) (.tmp 7), none⟩,
  ⟨some 9, .fieldAddr 0 (.tmp 1), none⟩,
  ⟨some 10, .load false [.int .i64] (.tmp 9), none⟩,
  ⟨some 11, .bin .mul (.const (.int .i64 3)) (.tmp 10), none⟩,
  ⟨some 12, .bin .add (.tmp 8) (.tmp 11), none⟩,
  ⟨some 2, .mv (.tmp 12), none⟩]
def c30_0 : ACode := .seq (.ops o30_1) (.seq (.seq (.ops o30_4) (.cond (.tmp 5) (.seq (.ops o30_7) (.ret)) (.skip))) (.seq (.ops o30_11) (.ret)))
def a30 : AFun := ⟨13, [.tmp 2], c30_0⟩
theorem ok30 : OkFun Try.prog 30 a30 := ⟨Try.f30, Try.f30.body.getD .skip, Try.func30, by kernel_rfl, by kernel_rfl, by kernel_rfl, by kernel_rfl, by kernel_rfl⟩
/-! #### cell.Memory.Steps -/
def o31_1 : List AOper := [⟨some 2, .mv (.const (.int .i64 0)), none⟩]
def o31_4 : List AOper := [⟨some 3, .mv (.tmp 0), none⟩,
  ⟨some 4, .eqNil 0 false (.tmp 3), none⟩]
def o31_7 : List AOper := [⟨some 2, .mv (.const (.int .i64 0)), none⟩]
def o31_11 : List AOper := [⟨some 5, .mv (.tmp 0), none⟩,
  ⟨some 6, .nilCheck (.tmp 5), none⟩,
  ⟨some 7, .fieldAddr 2 (.tmp 6), none⟩,
  ⟨some 8, .load false [.int .i64] (.tmp 7), none⟩,
  ⟨some 2, .mv (.tmp 8), none⟩]
def c31_0 : ACode := .seq (.ops o31_1) (.seq (.seq (.ops o31_4) (.cond (.tmp 4) (.seq (.ops o31_7) (.ret)) (.skip))) (.seq (.ops o31_11) (.ret)))
def a31 : AFun := ⟨9, [.tmp 2], c31_0⟩
theorem ok31 : OkFun Try.prog 31 a31 := ⟨Try.f31, Try.f31.body.getD .skip, Try.func31, by kernel_rfl, by kernel_rfl, by kernel_rfl, by kernel_rfl, by kernel_rfl⟩
/-! #### flush.Flush.Begun -/
def o32_1 : List AOper := [⟨some 2, .mv (.const (.bool false)), none⟩]
def o32_3 : List AOper := [⟨some 3, .mv (.tmp 0), none⟩,
  ⟨some 4, .eqNil 0 true (.tmp 3), none⟩,
  ⟨some 5, .mv (.tmp 4), none⟩,
  ⟨some 6, .mv (.tmp 0), some (5, true)⟩,
  ⟨some 7, .nilCheck (.tmp 6), some (5, true)⟩,
  ⟨some 8, .fieldAddr 2 (.tmp 7), some (5, true)⟩,
  ⟨some 9, .load false [.int .i64] (.tmp 8), some (5, true)⟩,
  ⟨some 10, .bin .gtr (.tmp 9) (.const (.int .i64 0)), some (5, true)⟩,
  ⟨some 11, .pick (.tmp 5) (.tmp 10) (.const (.bool false)), none⟩,
  ⟨some 2, .mv (.tmp 11), none⟩]
def c32_0 : ACode := .seq (.ops o32_1) (.seq (.ops o32_3) (.ret))
def a32 : AFun := ⟨12, [.tmp 2], c32_0⟩
theorem ok32 : OkFun Try.prog 32 a32 := ⟨Try.f32, Try.f32.body.getD .skip, Try.func32, by kernel_rfl, by kernel_rfl, by kernel_rfl, by kernel_rfl, by kernel_rfl⟩
/-! #### flush.Flush.Done -/
def o33_1 : List AOper := [⟨some 2, .mv (.const (.bool false)), none⟩]
def o33_3 : List AOper := [⟨some 3, .mv (.tmp 0), none⟩,
  ⟨some 4, .call false (.func 45) [.tmp 3] [(false, [.int .i64])] true, none⟩,
  ⟨some 5, .bin .eql (.tmp 4) (.const (.int .i64 0)), none⟩,
  ⟨some 2, .mv (.tmp 5), none⟩]
def c33_0 : ACode := .seq (.ops o33_1) (.seq (.ops o33_3) (.ret))
def a33 : AFun := ⟨6, [.tmp 2], c33_0⟩
theorem ok33 : OkFun Try.prog 33 a33 := ⟨Try.f33, Try.f33.body.getD .skip, Try.func33, by kernel_rfl, by kernel_rfl, by kernel_rfl, by kernel_rfl, by kernel_rfl⟩
/-! #### layout.Film -/
def o34_1 : List AOper := [⟨some 2, .box (.tmp 0), none⟩,
  ⟨some 4, .mv (.const (.slice none 0 0)), none⟩]
def o34_4 : List (AOper × Option Nat) := [(⟨some 8, .load true [.int .i64, .int .i64] (.tmp 2), none⟩, none),
  (⟨some 9, .call true (.func 36) [.tmp 8] [(false, [.bool])] true, none⟩, none),
  (⟨some 10, .un .not (.tmp 9), none⟩, none),
  (⟨some 11, .mv (.tmp 10), none⟩, none),
  (⟨some 12, .mv (.tmp 1), some (11, false)⟩, none),
  (⟨some 13, .call false (.func 41) [.tmp 12] [(false, [.int .i64])] true, some (11, false)⟩, none),
  (⟨some 14, .load true [.int .i64, .int .i64] (.tmp 2), some (11, false)⟩, none),
  (⟨some 15, .call true (.func 35) [.tmp 14] [(false, [.int .i64])] true, some (11, false)⟩, none),
  (⟨some 16, .bin .neq (.tmp 13) (.tmp 15), some (11, false)⟩, none),
  (⟨some 17, .pick (.tmp 11) (.const (.bool true)) (.tmp 16), none⟩, none)]
def o34_7 : List AOper := [⟨some 4, .mv (.const (.slice none 0 0)), none⟩]
def o34_11 : List (AOper × Option Nat) := [(⟨some 18, .mv (.tmp 1), none⟩, none),
  (⟨some 19, .load true [.int .i64, .int .i64] (.tmp 2), none⟩, none),
  (⟨some 20, .call true (.func 53) [.tmp 19, .const (.int .i64 4)] [(false, [.int .i64])] true, none⟩, none),
  (⟨some 21, .fieldAddr 0 (.tmp 2), none⟩, none),
  (⟨some 22, .load false [.int .i64] (.tmp 21), none⟩, none),
  (⟨some 23, .bin .mul (.const (.int .i64 3)) (.tmp 22), none⟩, none),
  (⟨some 24, .call false (.func 52) [.tmp 18, .tmp 20, .tmp 23] [(false, [.slice])] true, none⟩, none),
  (⟨some 5, .mv (.tmp 24), none⟩, none)]
def o34_13 : List AOper := [⟨some 25, .fieldAddr 0 (.tmp 2), none⟩,
  ⟨some 26, .load false [.int .i64] (.tmp 25), none⟩,
  ⟨some 27, .makeSlice 3 24 [.int .u64 0, .int .u64 0, .int .u64 0] (.tmp 26) (.tmp 26), none⟩,
  ⟨some 6, .mv (.tmp 27), none⟩]
def o34_16 : List AOper := [⟨some 28, .mv (.tmp 6), none⟩,
  ⟨some 29, .len (.tmp 28), none⟩,
  ⟨some 30, .mv (.const (.int .i64 0)), none⟩]
def o34_20 : List AOper := [⟨some 31, .bin .lss (.tmp 30) (.tmp 29), none⟩]
def o34_28 : List AOper := [⟨some 32, .mv (.tmp 30), none⟩,
  ⟨some 7, .mv (.tmp 32), none⟩]
def o34_29 : List (AOper × Option Nat) := [(⟨some 33, .mv (.tmp 6), none⟩, none),
  (⟨some 34, .mv (.tmp 7), none⟩, none),
  (⟨some 35, .indexAddr 3 (.tmp 33) (.tmp 34), none⟩, none),
  (⟨some 36, .sliceArr 3 1 (.tmp 35) none none, none⟩, none),
  (⟨some 37, .mv (.tmp 5), none⟩, none),
  (⟨some 38, .mv (.tmp 7), none⟩, none),
  (⟨some 39, .bin .mul (.const (.int .i64 3)) (.tmp 38), none⟩, none),
  (⟨some 40, .slice 1 (.tmp 37) (some (.tmp 39)) none, none⟩, none),
  (⟨some 41, .copy 1 (.tmp 36) (.tmp 40), none⟩, none)]
def o34_30 : List AOper := [⟨some 42, .bin .add (.tmp 30) (.const (.int .i64 1)), none⟩,
  ⟨some 30, .mv (.tmp 42), none⟩]
def c34_30 : ACode := .ops o34_30
def b34_18 : ACode := .post (.seq (.ops o34_20) (.seq (.cond (.tmp 31) (.skip) (.exit 0)) (.seq (.block 1 (.seq (.ops o34_28) (.draw [] 0 o34_29 []))) (.clear zl60 c34_30)))) zl60
def o34_32 : List AOper := [⟨some 43, .mv (.tmp 6), none⟩,
  ⟨some 4, .mv (.tmp 43), none⟩]
def c34_31 : ACode := .seq (.ops o34_32) (.ret)
def c34_0 : ACode := .seq (.ops o34_1) (.seq (.seq (.draw [] 0 o34_4 [(6, 5)]) (.cond (.tmp 17) (.seq (.ops o34_7) (.ret)) (.skip))) (.seq (.draw [] 0 o34_11 []) (.seq (.ops o34_13) (.seq (.seq (.ops o34_16) (.block 0 (.clear zl60 (.loop b34_18)))) (.clear zl61 c34_31)))))
def a34 : AFun := ⟨44, [.tmp 4], c34_0⟩
theorem ok34 : OkFun Try.prog 34 a34 := ⟨Try.f34, Try.f34.body.getD .skip, Try.func34, by kernel_rfl, by kernel_rfl, by kernel_rfl, by kernel_rfl, by kernel_rfl⟩
/-! #### layout.Size -/
def o35_1 : List AOper := [⟨some 1, .box (.tmp 0), none⟩,
  ⟨some 2, .mv (.const (.int .i64 0)), none⟩]
def o35_4 : List AOper := [⟨some 3, .load true [.int .i64, .int .i64] (.tmp 1), none⟩,
  ⟨some 4, .call true (.func 36) [.tmp 3] [(false, [.bool])] true, none⟩,
  ⟨some 5, .un .not (.tmp 4), none⟩]
def o35_7 : List AOper := [⟨some 2, .mv (.const (.int .i64 0)), none⟩]
def o35_11 : List (AOper × Option Nat) := [(⟨some 6, .load true [.int .i64, .int .i64] (.tmp 1), none⟩, none),
  (⟨some 7, .call true (.func 53) [.tmp 6, .const (.int .i64 4)] [(false, [.int .i64])] true, none⟩, none),
  (⟨some 8, .fieldAddr 0 (.tmp 1), none⟩, none),
  (⟨some 9, .load false [.int .i64] (.tmp 8), none⟩, none),
  (⟨some 10, .bin .mul (.const (.int .i64 3)) (.tmp 9), none⟩, none),
  (⟨some 11, .bin .add (.tmp 7) (.tmp 10), none⟩, none),
  (⟨some 2, .mv (.tmp 11), none⟩, none)]
def c35_0 : ACode := .seq (.ops o35_1) (.seq (.seq (.ops o35_4) (.cond (.tmp 5) (.seq (.ops o35_7) (.ret)) (.skip))) (.seq (.draw [] 0 o35_11 []) (.ret)))
def a35 : AFun := ⟨12, [.tmp 2], c35_0⟩
theorem ok35 : OkFun Try.prog 35 a35 := ⟨Try.f35, Try.f35.body.getD .skip, Try.func35, by kernel_rfl, by kernel_rfl, by kernel_rfl, by kernel_rfl, by kernel_rfl⟩
/-! #### layout.Right -/
def o36_1 : List AOper := [⟨some 1, .box (.tmp 0), none⟩,
  ⟨some 2, .mv (.const (.bool false)), none⟩]
def o36_3 : List AOper := [⟨some 3, .fieldAddr 0 (.tmp 1), none⟩,
  ⟨some 4, .load false [.int .i64] (.tmp 3), none⟩,
  ⟨some 5, .bin .leq (.const (.int .i64 1)) (.tmp 4), none⟩,
  ⟨some 6, .mv (.tmp 5), none⟩,
  ⟨some 7, .fieldAddr 0 (.tmp 1), some (6, true)⟩,
  ⟨some 8, .load false [.int .i64] (.tmp 7), some (6, true)⟩,
  ⟨some 9, .bin .leq (.tmp 8) (.const (.int .i64 65536)), some (6, true)⟩,
  ⟨some 10, .pick (.tmp 6) (.tmp 9) (.const (.bool false)), none⟩,
  ⟨some 11, .mv (.tmp 10), none⟩,
  ⟨some 12, .fieldAddr 1 (.tmp 1), some (11, true)⟩,
  ⟨some 13, .load false [.int .i64] (.tmp 12), some (11, true)⟩,
  ⟨some 14, .bin .leq (.const (.int .i64 1)) (.tmp 13), some (11, true)⟩,
  ⟨some 15, .pick (.tmp 11) (.tmp 14) (.const (.bool false)), none⟩,
  ⟨some 16, .mv (.tmp 15), none⟩,
  ⟨some 17, .fieldAddr 1 (.tmp 1), some (16, true)⟩,
  ⟨some 18, .load false [.int .i64] (.tmp 17), some (16, true)⟩,
  ⟨some 19, .bin .leq (.tmp 18) (.const (.int .i64 256)), some (16, true)⟩,
  ⟨some 20, .pick (.tmp 16) (.tmp 19) (.const (.bool false)), none⟩,
  ⟨some 2, .mv (.tmp 20), none⟩]
def c36_0 : ACode := .seq (.ops o36_1) (.seq (.ops o36_3) (.ret))
def a36 : AFun := ⟨21, [.tmp 2], c36_0⟩
theorem ok36 : OkFun Try.prog 36 a36 := ⟨Try.f36, Try.f36.body.getD .skip, Try.func36, by kernel_rfl, by kernel_rfl, by kernel_rfl, by kernel_rfl, by kernel_rfl⟩
/-! #### layout.Begun -/
def o37_1 : List AOper := [⟨some 2, .box (.tmp 0), none⟩,
  ⟨some 4, .mv (.const (.int .i64 0)), none⟩]
def o37_3 : List AOper := [⟨some 5, .load true [.int .i64, .int .i64] (.tmp 2), none⟩,
  ⟨some 6, .mv (.tmp 1), none⟩,
  ⟨some 7, .fieldAddr 1 (.tmp 2), none⟩,
  ⟨some 8, .load false [.int .i64] (.tmp 7), none⟩,
  ⟨some 9, .call true (.func 54) [.tmp 5, .const (.int .i64 2), .tmp 6, .tmp 8] [(false, [.int .i64])] true, none⟩,
  ⟨some 4, .mv (.tmp 9), none⟩]
def c37_0 : ACode := .seq (.ops o37_1) (.seq (.ops o37_3) (.ret))
def a37 : AFun := ⟨10, [.tmp 4], c37_0⟩
theorem ok37 : OkFun Try.prog 37 a37 := ⟨Try.f37, Try.f37.body.getD .skip, Try.func37, by kernel_rfl, by kernel_rfl, by kernel_rfl, by kernel_rfl, by kernel_rfl⟩
/-! #### layout.Stripe -/
def o38_1 : List AOper := [⟨some 2, .box (.tmp 0), none⟩,
  ⟨some 4, .mv (.const (.int .i64 0)), none⟩]
def o38_4 : List AOper := [⟨some 5, .load true [.int .i64, .int .i64] (.tmp 2), none⟩,
  ⟨some 6, .call true (.func 36) [.tmp 5] [(false, [.bool])] true, none⟩,
  ⟨some 7, .un .not (.tmp 6), none⟩,
  ⟨some 8, .mv (.tmp 7), none⟩,
  ⟨some 9, .mv (.tmp 1), some (8, false)⟩,
  ⟨some 10, .bin .lss (.tmp 9) (.const (.int .i64 0)), some (8, false)⟩,
  ⟨some 11, .pick (.tmp 8) (.const (.bool true)) (.tmp 10), none⟩,
  ⟨some 12, .mv (.tmp 11), none⟩,
  ⟨some 13, .mv (.tmp 1), some (12, false)⟩,
  ⟨some 14, .fieldAddr 0 (.tmp 2), some (12, false)⟩,
  ⟨some 15, .load false [.int .i64] (.tmp 14), some (12, false)⟩,
  ⟨some 16, .bin .geq (.tmp 13) (.tmp 15), some (12, false)⟩,
  ⟨some 17, .pick (.tmp 12) (.const (.bool true)) (.tmp 16), none⟩]
def o38_7 : List AOper := [⟨some 4, .mv (.const (.int .i64 (-1))), none⟩]
def o38_11 : List AOper := [⟨some 18, .mv (.tmp 1), none⟩,
  ⟨some 19, .fieldAddr 1 (.tmp 2), none⟩,
  ⟨some 20, .load false [.int .i64] (.tmp 19), none⟩,
  ⟨some 21, .bin .rem (.tmp 18) (.tmp 20), none⟩,
  ⟨some 4, .mv (.tmp 21), none⟩]
def c38_0 : ACode := .seq (.ops o38_1) (.seq (.seq (.ops o38_4) (.cond (.tmp 17) (.seq (.ops o38_7) (.ret)) (.skip))) (.seq (.ops o38_11) (.ret)))
def a38 : AFun := ⟨22, [.tmp 4], c38_0⟩
theorem ok38 : OkFun Try.prog 38 a38 := ⟨Try.f38, Try.f38.body.getD .skip, Try.func38, by kernel_rfl, by kernel_rfl, by kernel_rfl, by kernel_rfl, by kernel_rfl⟩
/-! #### flush.adds -/
def o39_1 : List AOper := [⟨some 3, .box (.tmp 0), none⟩,
  ⟨some 4, .box (.tmp 1), none⟩,
  ⟨some 5, .box (.tmp 2), none⟩,
  ⟨some 6, .mv (.const (.nilFunc)), none⟩]
def o39_3 : List AOper := [⟨some 7, .makeFunc (.func 55) [] [.tmp 3, .tmp 4, .tmp 5], none⟩,
  ⟨some 6, .mv (.tmp 7), none⟩]
def c39_0 : ACode := .seq (.ops o39_1) (.seq (.ops o39_3) (.ret))
def a39 : AFun := ⟨8, [.tmp 6], c39_0⟩
theorem ok39 : OkFun Try.prog 39 a39 := ⟨Try.f39, Try.f39.body.getD .skip, Try.func39, by kernel_rfl, by kernel_rfl, by kernel_rfl, by kernel_rfl, by kernel_rfl⟩
/-! #### peek.Peek.given -/
def o40_1 : List AOper := [⟨some 2, .mv (.const (.bool false)), none⟩]
def o40_3 : List AOper := [⟨some 3, .mv (.tmp 0), none⟩,
  ⟨some 4, .eqNil 0 true (.tmp 3), none⟩,
  ⟨some 5, .mv (.tmp 4), none⟩,
  ⟨some 6, .mv (.tmp 0), some (5, true)⟩,
  ⟨some 7, .nilCheck (.tmp 6), some (5, true)⟩,
  ⟨some 8, .fieldAddr 2 (.tmp 7), some (5, true)⟩,
  ⟨some 9, .load false [.int .i64] (.tmp 8), some (5, true)⟩,
  ⟨some 10, .bin .gtr (.tmp 9) (.const (.int .i64 0)), some (5, true)⟩,
  ⟨some 11, .pick (.tmp 5) (.tmp 10) (.const (.bool false)), none⟩,
  ⟨some 2, .mv (.tmp 11), none⟩]
def c40_0 : ACode := .seq (.ops o40_1) (.seq (.ops o40_3) (.ret))
def a40 : AFun := ⟨12, [.tmp 2], c40_0⟩
theorem ok40 : OkFun Try.prog 40 a40 := ⟨Try.f40, Try.f40.body.getD .skip, Try.func40, by kernel_rfl, by kernel_rfl, by kernel_rfl, by kernel_rfl, by kernel_rfl⟩
/-! #### cell.Memory.Len -/
def o41_1 : List AOper := [⟨some 2, .mv (.const (.int .i64 0)), none⟩]
def o41_4 : List AOper := [⟨some 3, .mv (.tmp 0), none⟩,
  ⟨some 4, .eqNil 0 false (.tmp 3), none⟩]
def o41_7 : List AOper := [⟨some 2, .mv (.const (.int .i64 0)), none⟩]
def o41_11 : List AOper := [⟨some 5, .mv (.tmp 0), none⟩,
  ⟨some 6, .nilCheck (.tmp 5), none⟩,
  ⟨some 7, .fieldAddr 1 (.tmp 6), none⟩,
  ⟨some 8, .load false [.slice] (.tmp 7), none⟩,
  ⟨some 9, .len (.tmp 8), none⟩,
  ⟨some 2, .mv (.tmp 9), none⟩]
def c41_0 : ACode := .seq (.ops o41_1) (.seq (.seq (.ops o41_4) (.cond (.tmp 4) (.seq (.ops o41_7) (.ret)) (.skip))) (.seq (.ops o41_11) (.ret)))
def a41 : AFun := ⟨10, [.tmp 2], c41_0⟩
theorem ok41 : OkFun Try.prog 41 a41 := ⟨Try.f41, Try.f41.body.getD .skip, Try.func41, by kernel_rfl, by kernel_rfl, by kernel_rfl, by kernel_rfl, by kernel_rfl⟩
/-! #### peek.Peek.place -/
def o42_1 : List AOper := [⟨some 2, .mv (.const (.int .i64 0)), none⟩,
  ⟨some 3, .mv (.const (.pointer none)), none⟩]
def o42_3 : List AOper := [⟨some 5, .mv (.tmp 0), none⟩,
  ⟨some 6, .nilCheck (.tmp 5), none⟩,
  ⟨some 7, .fieldAddr 4 (.tmp 6), none⟩,
  ⟨some 8, .load false [.int .i64] (.tmp 7), none⟩,
  ⟨some 4, .mv (.tmp 8), none⟩]
def o42_6 : List AOper := [⟨some 9, .mv (.tmp 4), none⟩,
  ⟨some 10, .mv (.tmp 0), none⟩,
  ⟨some 11, .nilCheck (.tmp 10), none⟩,
  ⟨some 12, .fieldAddr 0 (.tmp 11), none⟩,
  ⟨some 13, .fieldAddr 1 (.tmp 12), none⟩,
  ⟨some 14, .load false [.int .i64] (.tmp 13), none⟩,
  ⟨some 15, .bin .lss (.tmp 9) (.tmp 14), none⟩]
def o42_9 : List (AOper × Option Nat) := [(⟨some 16, .mv (.tmp 0), none⟩, none),
  (⟨some 17, .nilCheck (.tmp 16), none⟩, none),
  (⟨some 18, .fieldAddr 0 (.tmp 17), none⟩, none),
  (⟨some 19, .load true [.int .i64, .int .i64] (.tmp 18), none⟩, none),
  (⟨some 20, .mv (.tmp 4), none⟩, none),
  (⟨some 21, .call true (.func 57) [.tmp 19, .tmp 20] [(false, [.int .i64])] true, none⟩, none),
  (⟨some 22, .mv (.tmp 0), none⟩, none),
  (⟨some 23, .nilCheck (.tmp 22), none⟩, none),
  (⟨some 24, .fieldAddr 5 (.tmp 23), none⟩, none),
  (⟨some 25, .load false [.slice] (.tmp 24), none⟩, none),
  (⟨some 26, .mv (.tmp 4), none⟩, none),
  (⟨some 27, .indexAddr 1 (.tmp 25) (.tmp 26), none⟩, none),
  (⟨some 2, .mv (.tmp 21), none⟩, none),
  (⟨some 3, .mv (.tmp 27), none⟩, none)]
def o42_13 : List AOper := [⟨some 28, .mv (.tmp 4), none⟩,
  ⟨some 29, .mv (.tmp 0), none⟩,
  ⟨some 30, .nilCheck (.tmp 29), none⟩,
  ⟨some 31, .fieldAddr 0 (.tmp 30), none⟩,
  ⟨some 32, .fieldAddr 1 (.tmp 31), none⟩,
  ⟨some 33, .load false [.int .i64] (.tmp 32), none⟩,
  ⟨some 34, .bin .sub (.tmp 28) (.tmp 33), none⟩,
  ⟨some 4, .mv (.tmp 34), none⟩]
def o42_16 : List AOper := [⟨some 35, .mv (.tmp 4), none⟩,
  ⟨some 36, .mv (.tmp 0), none⟩,
  ⟨some 37, .nilCheck (.tmp 36), none⟩,
  ⟨some 38, .fieldAddr 0 (.tmp 37), none⟩,
  ⟨some 39, .fieldAddr 0 (.tmp 38), none⟩,
  ⟨some 40, .load false [.int .i64] (.tmp 39), none⟩,
  ⟨some 41, .bin .mul (.const (.int .i64 3)) (.tmp 40), none⟩,
  ⟨some 42, .bin .lss (.tmp 35) (.tmp 41), none⟩]
def o42_19 : List (AOper × Option Nat) := [(⟨some 43, .mv (.tmp 0), none⟩, none),
  (⟨some 44, .nilCheck (.tmp 43), none⟩, none),
  (⟨some 45, .fieldAddr 0 (.tmp 44), none⟩, none),
  (⟨some 46, .load true [.int .i64, .int .i64] (.tmp 45), none⟩, none),
  (⟨some 47, .mv (.tmp 4), none⟩, none),
  (⟨some 48, .bin .quo (.tmp 47) (.const (.int .i64 3)), none⟩, none),
  (⟨some 49, .mv (.tmp 4), none⟩, none),
  (⟨some 50, .bin .rem (.tmp 49) (.const (.int .i64 3)), none⟩, none),
  (⟨some 51, .call true (.func 56) [.tmp 46, .tmp 48, .tmp 50] [(false, [.int .i64])] true, none⟩, none),
  (⟨some 52, .mv (.tmp 0), none⟩, none),
  (⟨some 53, .nilCheck (.tmp 52), none⟩, none),
  (⟨some 54, .fieldAddr 7 (.tmp 53), none⟩, none),
  (⟨some 55, .load false [.slice] (.tmp 54), none⟩, none),
  (⟨some 56, .mv (.tmp 4), none⟩, none),
  (⟨some 57, .bin .quo (.tmp 56) (.const (.int .i64 3)), none⟩, none),
  (⟨some 58, .mv (.tmp 4), none⟩, none),
  (⟨some 59, .bin .rem (.tmp 58) (.const (.int .i64 3)), none⟩, none),
  (⟨some 60, .indexAddr 3 (.tmp 55) (.tmp 57), none⟩, none),
  (⟨some 61, .indexArr 3 1 (.tmp 60) (.tmp 59), none⟩, none),
  (⟨some 2, .mv (.tmp 51), none⟩, none),
  (⟨some 3, .mv (.tmp 61), none⟩, none)]
def o42_23 : List AOper := [⟨some 62, .mv (.tmp 4), none⟩,
  ⟨some 63, .mv (.tmp 0), none⟩,
  ⟨some 64, .nilCheck (.tmp 63), none⟩,
  ⟨some 65, .fieldAddr 0 (.tmp 64), none⟩,
  ⟨some 66, .fieldAddr 0 (.tmp 65), none⟩,
  ⟨some 67, .load false [.int .i64] (.tmp 66), none⟩,
  ⟨some 68, .bin .mul (.const (.int .i64 3)) (.tmp 67), none⟩,
  ⟨some 69, .bin .sub (.tmp 62) (.tmp 68), none⟩,
  ⟨some 4, .mv (.tmp 69), none⟩]
def o42_25 : List (AOper × Option Nat) := [(⟨some 70, .mv (.tmp 0), none⟩, none),
  (⟨some 71, .nilCheck (.tmp 70), none⟩, none),
  (⟨some 72, .fieldAddr 0 (.tmp 71), none⟩, none),
  (⟨some 73, .load true [.int .i64, .int .i64] (.tmp 72), none⟩, none),
  (⟨some 74, .mv (.tmp 4), none⟩, none),
  (⟨some 75, .call true (.func 37) [.tmp 73, .tmp 74] [(false, [.int .i64])] true, none⟩, none),
  (⟨some 76, .mv (.tmp 0), none⟩, none),
  (⟨some 77, .nilCheck (.tmp 76), none⟩, none),
  (⟨some 78, .fieldAddr 6 (.tmp 77), none⟩, none),
  (⟨some 79, .load false [.slice] (.tmp 78), none⟩, none),
  (⟨some 80, .mv (.tmp 4), none⟩, none),
  (⟨some 81, .indexAddr 1 (.tmp 79) (.tmp 80), none⟩, none),
  (⟨some 2, .mv (.tmp 75), none⟩, none),
  (⟨some 3, .mv (.tmp 81), none⟩, none)]
def c42_24 : ACode := .seq (.draw [] 0 o42_25 []) (.ret)
def c42_0 : ACode := .seq (.ops o42_1) (.seq (.ops o42_3) (.seq (.seq (.ops o42_6) (.cond (.tmp 15) (.seq (.draw [] 0 o42_9 []) (.ret)) (.skip))) (.seq (.ops o42_13) (.seq (.seq (.ops o42_16) (.cond (.tmp 42) (.seq (.draw [] 0 o42_19 []) (.ret)) (.skip))) (.seq (.ops o42_23) (.clear zl62 c42_24))))))
def a42 : AFun := ⟨82, [.tmp 2, .tmp 3], c42_0⟩
theorem ok42 : OkFun Try.prog 42 a42 := ⟨Try.f42, Try.f42.body.getD .skip, Try.func42, by kernel_rfl, by kernel_rfl, by kernel_rfl, by kernel_rfl, by kernel_rfl⟩
/-! #### cell.Memory.Load -/
def o43_1 : List AOper := [⟨some 4, .mv (.const (.int .u64 0)), none⟩,
  ⟨some 5, .mv (.const (.bool false)), none⟩]
def o43_3 : List AOper := [⟨some 7, .mv (.tmp 0), none⟩,
  ⟨some 8, .mv (.tmp 1), none⟩,
  ⟨some 9, .call false (.func 58) [.tmp 7, .tmp 8] [(false, [.ptr])] true, none⟩,
  ⟨some 6, .mv (.tmp 9), none⟩]
def o43_6 : List AOper := [⟨some 10, .mv (.tmp 6), none⟩,
  ⟨some 11, .eqNil 0 false (.tmp 10), none⟩]
def o43_9 : List AOper := [⟨some 4, .mv (.const (.int .u64 0)), none⟩,
  ⟨some 5, .mv (.const (.bool false)), none⟩]
def o43_13 : List AOper := [⟨some 12, .mv (.tmp 6), none⟩,
  ⟨some 13, .nilCheck (.tmp 12), none⟩,
  ⟨some 14, .load false [.int .u64] (.tmp 13), none⟩,
  ⟨some 4, .mv (.tmp 14), none⟩,
  ⟨some 5, .mv (.const (.bool true)), none⟩]
def c43_0 : ACode := .seq (.ops o43_1) (.seq (.ops o43_3) (.seq (.seq (.ops o43_6) (.cond (.tmp 11) (.seq (.ops o43_9) (.ret)) (.skip))) (.seq (.ops o43_13) (.ret))))
def a43 : AFun := ⟨15, [.tmp 4, .tmp 5], c43_0⟩
theorem ok43 : OkFun Try.prog 43 a43 := ⟨Try.f43, Try.f43.body.getD .skip, Try.func43, by kernel_rfl, by kernel_rfl, by kernel_rfl, by kernel_rfl, by kernel_rfl⟩
/-! #### slices.Equal[[]uint64,uint64] -/
def o44_1 : List AOper := [⟨some 4, .mv (.const (.bool false)), none⟩]
def o44_4 : List AOper := [⟨some 6, .mv (.tmp 0), none⟩,
  ⟨some 7, .len (.tmp 6), none⟩,
  ⟨some 8, .mv (.tmp 1), none⟩,
  ⟨some 9, .len (.tmp 8), none⟩,
  ⟨some 10, .bin .neq (.tmp 7) (.tmp 9), none⟩]
def o44_7 : List AOper := [⟨some 4, .mv (.const (.bool false)), none⟩]
def o44_12 : List AOper := [⟨some 11, .mv (.tmp 0), none⟩,
  ⟨some 12, .len (.tmp 11), none⟩,
  ⟨some 13, .mv (.const (.int .i64 0)), none⟩]
def o44_16 : List AOper := [⟨some 14, .bin .lss (.tmp 13) (.tmp 12), none⟩]
def o44_24 : List AOper := [⟨some 15, .mv (.tmp 13), none⟩,
  ⟨some 5, .mv (.tmp 15), none⟩]
def o44_26 : List (AOper × Option Nat) := [(⟨some 16, .mv (.tmp 0), none⟩, none),
  (⟨some 17, .mv (.tmp 5), none⟩, none),
  (⟨some 18, .indexAddr 1 (.tmp 16) (.tmp 17), none⟩, none),
  (⟨some 19, .load false [.int .u64] (.tmp 18), none⟩, none),
  (⟨some 20, .mv (.tmp 1), none⟩, none),
  (⟨some 21, .mv (.tmp 5), none⟩, none),
  (⟨some 22, .indexAddr 1 (.tmp 20) (.tmp 21), none⟩, none),
  (⟨some 23, .load false [.int .u64] (.tmp 22), none⟩, none),
  (⟨some 24, .bin .neq (.tmp 19) (.tmp 23), none⟩, none)]
def o44_29 : List AOper := [⟨some 4, .mv (.const (.bool false)), none⟩]
def o44_32 : List AOper := [⟨some 25, .bin .add (.tmp 13) (.const (.int .i64 1)), none⟩,
  ⟨some 13, .mv (.tmp 25), none⟩]
def c44_32 : ACode := .ops o44_32
def b44_14 : ACode := .post (.seq (.ops o44_16) (.seq (.cond (.tmp 14) (.skip) (.exit 0)) (.seq (.block 1 (.seq (.ops o44_24) (.seq (.draw [] 0 o44_26 []) (.cond (.tmp 24) (.seq (.ops o44_29) (.ret)) (.skip))))) (.clear zl63 c44_32)))) zl63
def o44_34 : List AOper := [⟨some 4, .mv (.const (.bool true)), none⟩]
def c44_33 : ACode := .seq (.ops o44_34) (.ret)
def c44_0 : ACode := .seq (.ops o44_1) (.seq (.seq (.ops o44_4) (.cond (.tmp 10) (.seq (.ops o44_7) (.ret)) (.skip))) (.seq (.seq (.ops o44_12) (.block 0 (.clear zl63 (.loop b44_14)))) (.clear zl59 c44_33)))
def a44 : AFun := ⟨26, [.tmp 4], c44_0⟩
theorem ok44 : OkFun Try.prog 44 a44 := ⟨Try.f44, Try.f44.body.getD .skip, Try.func44, by kernel_rfl, by kernel_rfl, by kernel_rfl, by kernel_rfl, by kernel_rfl⟩
/-! #### flush.Flush.Left -/
def o45_1 : List AOper := [⟨some 2, .mv (.const (.int .i64 0)), none⟩]
def o45_4 : List AOper := [⟨some 3, .mv (.tmp 0), none⟩,
  ⟨some 4, .eqNil 0 false (.tmp 3), none⟩]
def o45_7 : List AOper := [⟨some 2, .mv (.const (.int .i64 0)), none⟩]
def o45_11 : List (AOper × Option Nat) := [(⟨some 5, .mv (.tmp 0), none⟩, none),
  (⟨some 6, .nilCheck (.tmp 5), none⟩, none),
  (⟨some 7, .fieldAddr 1 (.tmp 6), none⟩, none),
  (⟨some 8, .load false [.slice] (.tmp 7), none⟩, none),
  (⟨some 9, .len (.tmp 8), none⟩, none),
  (⟨some 10, .mv (.tmp 0), none⟩, none),
  (⟨some 11, .nilCheck (.tmp 10), none⟩, none),
  (⟨some 12, .fieldAddr 2 (.tmp 11), none⟩, none),
  (⟨some 13, .load false [.int .i64] (.tmp 12), none⟩, none),
  (⟨some 14, .bin .sub (.tmp 9) (.tmp 13), none⟩, none),
  (⟨some 2, .mv (.tmp 14), none⟩, none)]
def c45_0 : ACode := .seq (.ops o45_1) (.seq (.seq (.ops o45_4) (.cond (.tmp 4) (.seq (.ops o45_7) (.ret)) (.skip))) (.seq (.draw [] 0 o45_11 []) (.ret)))
def a45 : AFun := ⟨15, [.tmp 2], c45_0⟩
theorem ok45 : OkFun Try.prog 45 a45 := ⟨Try.f45, Try.f45.body.getD .skip, Try.func45, by kernel_rfl, by kernel_rfl, by kernel_rfl, by kernel_rfl, by kernel_rfl⟩
/-! #### cell.Memory.Cas -/
def o46_1 : List AOper := [⟨some 8, .mv (.const (.bool false)), none⟩]
def o46_3 : List AOper := [⟨some 10, .mv (.tmp 0), none⟩,
  ⟨some 11, .mv (.tmp 1), none⟩,
  ⟨some 12, .call false (.func 58) [.tmp 10, .tmp 11] [(false, [.ptr])] true, none⟩,
  ⟨some 9, .mv (.tmp 12), none⟩]
def o46_6 : List AOper := [⟨some 13, .mv (.tmp 9), none⟩,
  ⟨some 14, .eqNil 0 false (.tmp 13), none⟩,
  ⟨some 15, .mv (.tmp 14), none⟩,
  ⟨some 16, .mv (.tmp 9), some (15, false)⟩,
  ⟨some 17, .nilCheck (.tmp 16), some (15, false)⟩,
  ⟨some 18, .load false [.int .u64] (.tmp 17), some (15, false)⟩,
  ⟨some 19, .mv (.tmp 2), some (15, false)⟩,
  ⟨some 20, .bin .neq (.tmp 18) (.tmp 19), some (15, false)⟩,
  ⟨some 21, .pick (.tmp 15) (.const (.bool true)) (.tmp 20), none⟩]
def o46_9 : List AOper := [⟨some 8, .mv (.const (.bool false)), none⟩]
def o46_13 : List AOper := [⟨some 22, .mv (.tmp 9), none⟩,
  ⟨some 23, .mv (.tmp 3), none⟩,
  ⟨some 24, .nilCheck (.tmp 22), none⟩,
  ⟨none, .store 1 (.tmp 24) (.tmp 23), none⟩]
def o46_15 : List AOper := [⟨some 25, .mv (.tmp 0), none⟩,
  ⟨some 26, .nilCheck (.tmp 25), none⟩,
  ⟨some 27, .fieldAddr 3 (.tmp 26), none⟩,
  ⟨some 28, .load false [.int .i64] (.tmp 27), none⟩,
  ⟨some 29, .bin .add (.tmp 28) (.const (.int .i64 1)), none⟩,
  ⟨some 30, .nilCheck (.tmp 25), none⟩,
  ⟨some 31, .fieldAddr 3 (.tmp 30), none⟩,
  ⟨none, .store 1 (.tmp 31) (.tmp 29), none⟩]
def o46_17 : List AOper := [⟨some 8, .mv (.const (.bool true)), none⟩]
def c46_0 : ACode := .seq (.ops o46_1) (.seq (.ops o46_3) (.seq (.seq (.ops o46_6) (.cond (.tmp 21) (.seq (.ops o46_9) (.ret)) (.skip))) (.seq (.ops o46_13) (.seq (.ops o46_15) (.seq (.ops o46_17) (.ret))))))
def a46 : AFun := ⟨32, [.tmp 8], c46_0⟩
theorem ok46 : OkFun Try.prog 46 a46 := ⟨Try.f46, Try.f46.body.getD .skip, Try.func46, by kernel_rfl, by kernel_rfl, by kernel_rfl, by kernel_rfl, by kernel_rfl⟩
/-! #### slices.Clone[[][3]uint64,[3]uint64] -/
def o47_1 : List AOper := [⟨some 2, .mv (.const (.slice none 0 0)), none⟩]
def o47_4 : List AOper := [⟨some 3, .mv (.tmp 0), none⟩,
  ⟨some 4, .eqNil 1 false (.tmp 3), none⟩]
def o47_7 : List AOper := [⟨some 2, .mv (.const (.slice none 0 0)), none⟩]
def o47_11 : List AOper := [⟨some 5, .buildSlice 3 0 [] [], none⟩,
  ⟨some 6, .mv (.tmp 0), none⟩,
  ⟨some 7, .append 3 24 (.tmp 5) (.tmp 6), none⟩,
  ⟨some 2, .mv (.tmp 7), none⟩]
def c47_0 : ACode := .seq (.ops o47_1) (.seq (.seq (.ops o47_4) (.cond (.tmp 4) (.seq (.ops o47_7) (.ret)) (.skip))) (.seq (.ops o47_11) (.ret)))
def a47 : AFun := ⟨8, [.tmp 2], c47_0⟩
theorem ok47 : OkFun Try.prog 47 a47 := ⟨Try.f47, Try.f47.body.getD .skip, Try.func47, by kernel_rfl, by kernel_rfl, by kernel_rfl, by kernel_rfl, by kernel_rfl⟩
/-! #### skylightref33.Adds -/
def o48_1 : List AOper := [⟨some 3, .box (.tmp 0), none⟩,
  ⟨some 6, .mv (.const (.slice none 0 0)), none⟩]
def o48_3 : List AOper := [⟨some 10, .load true [.int .i64, .int .i64] (.tmp 3), none⟩,
  ⟨some 11, .mv (.tmp 1), none⟩,
  ⟨some 12, .build [.int .i64 0, .int .i64 0, .int .i64 0] [(0, 1, .const (.int .i64 2)), (1, 1, .tmp 11)], none⟩,
  ⟨some 13, .call true (.func 59) [.tmp 10, .tmp 12] [(false, [.int .i64])] true, none⟩,
  ⟨some 14, .build [.int .i64 0, .int .u64 0] [(0, 1, .tmp 13), (1, 1, .const (.int .u64 1))], none⟩,
  ⟨some 15, .buildSlice 2 1 [.int .i64 0, .int .u64 0] [(0, 2, .tmp 14)], none⟩,
  ⟨some 7, .mv (.tmp 15), none⟩]
def o48_6 : List AOper := [⟨some 8, .mv (.const (.int .i64 0)), none⟩]
def o48_11 : List AOper := [⟨some 16, .mv (.tmp 8), none⟩,
  ⟨some 17, .mv (.tmp 2), none⟩,
  ⟨some 18, .len (.tmp 17), none⟩,
  ⟨some 19, .bin .lss (.tmp 16) (.tmp 18), none⟩]
def o48_18 : List AOper := [⟨some 9, .mv (.const (.int .i64 0)), none⟩]
def o48_23 : List AOper := [⟨some 22, .mv (.tmp 9), none⟩,
  ⟨some 23, .bin .lss (.tmp 22) (.const (.int .i64 3)), none⟩]
def o48_30 : List AOper := [⟨some 26, .mv (.tmp 2), none⟩,
  ⟨some 27, .mv (.tmp 8), none⟩,
  ⟨some 28, .mv (.tmp 9), none⟩,
  ⟨some 29, .indexAddr 4 (.tmp 26) (.tmp 27), none⟩,
  ⟨some 30, .fieldAddr 1 (.tmp 29), none⟩,
  ⟨some 31, .indexArr 3 1 (.tmp 30) (.tmp 28), none⟩,
  ⟨some 32, .load false [.int .u64] (.tmp 31), none⟩,
  ⟨some 33, .bin .neq (.tmp 32) (.const (.int .u64 0)), none⟩]
def o48_32 : List (AOper × Option Nat) := [(⟨some 34, .mv (.tmp 7), none⟩, none),
  (⟨some 35, .load true [.int .i64, .int .i64] (.tmp 3), none⟩, none),
  (⟨some 36, .mv (.tmp 2), none⟩, none),
  (⟨some 37, .mv (.tmp 8), none⟩, none),
  (⟨some 38, .indexAddr 4 (.tmp 36) (.tmp 37), none⟩, none),
  (⟨some 39, .fieldAddr 0 (.tmp 38), none⟩, none),
  (⟨some 40, .load false [.int .i64] (.tmp 39), none⟩, none),
  (⟨some 41, .mv (.tmp 9), none⟩, none),
  (⟨some 42, .build [.int .i64 0, .int .i64 0, .int .i64 0] [(0, 1, .const (.int .i64 4)), (1, 1, .tmp 40), (2, 1, .tmp 41)], none⟩, none),
  (⟨some 43, .call true (.func 59) [.tmp 35, .tmp 42] [(false, [.int .i64])] true, none⟩, none),
  (⟨some 44, .mv (.tmp 2), none⟩, none),
  (⟨some 45, .mv (.tmp 8), none⟩, none),
  (⟨some 46, .mv (.tmp 9), none⟩, none),
  (⟨some 47, .indexAddr 4 (.tmp 44) (.tmp 45), none⟩, none),
  (⟨some 48, .fieldAddr 1 (.tmp 47), none⟩, none),
  (⟨some 49, .indexArr 3 1 (.tmp 48) (.tmp 46), none⟩, none),
  (⟨some 50, .load false [.int .u64] (.tmp 49), none⟩, none),
  (⟨some 51, .build [.int .i64 0, .int .u64 0] [(0, 1, .tmp 43), (1, 1, .tmp 50)], none⟩, none),
  (⟨some 52, .buildSlice 2 1 [.int .i64 0, .int .u64 0] [(0, 2, .tmp 51)], none⟩, none),
  (⟨some 53, .append 2 16 (.tmp 34) (.tmp 52), none⟩, none),
  (⟨some 7, .mv (.tmp 53), none⟩, none)]
def o48_34 : List AOper := [⟨some 24, .mv (.tmp 9), none⟩,
  ⟨some 25, .bin .add (.tmp 24) (.const (.int .i64 1)), none⟩,
  ⟨some 9, .mv (.tmp 25), none⟩]
def c48_34 : ACode := .ops o48_34
def b48_20 : ACode := .post (.seq (.seq (.ops o48_23) (.cond (.tmp 23) (.skip) (.exit 2))) (.seq (.block 3 (.seq (.ops o48_30) (.cond (.tmp 33) (.draw [] 0 o48_32 []) (.skip)))) (.clear zl64 c48_34))) zl64
def o48_35 : List AOper := [⟨some 20, .mv (.tmp 8), none⟩,
  ⟨some 21, .bin .add (.tmp 20) (.const (.int .i64 1)), none⟩,
  ⟨some 8, .mv (.tmp 21), none⟩]
def c48_35 : ACode := .ops o48_35
def b48_8 : ACode := .post (.seq (.seq (.ops o48_11) (.cond (.tmp 19) (.skip) (.exit 0))) (.seq (.block 1 (.seq (.ops o48_18) (.block 2 (.clear zl64 (.loop b48_20))))) (.clear zl65 c48_35))) zl65
def o48_37 : List AOper := [⟨some 54, .mv (.tmp 7), none⟩,
  ⟨some 55, .load true [.int .i64, .int .i64] (.tmp 3), none⟩,
  ⟨some 56, .mv (.tmp 1), none⟩,
  ⟨some 57, .build [.int .i64 0, .int .i64 0, .int .i64 0] [(0, 1, .const (.int .i64 3)), (1, 1, .tmp 56)], none⟩,
  ⟨some 58, .call true (.func 59) [.tmp 55, .tmp 57] [(false, [.int .i64])] true, none⟩,
  ⟨some 59, .build [.int .i64 0, .int .u64 0] [(0, 1, .tmp 58), (1, 1, .const (.int .u64 1))], none⟩,
  ⟨some 60, .buildSlice 2 1 [.int .i64 0, .int .u64 0] [(0, 2, .tmp 59)], none⟩,
  ⟨some 61, .append 2 16 (.tmp 54) (.tmp 60), none⟩,
  ⟨some 6, .mv (.tmp 61), none⟩]
def c48_36 : ACode := .seq (.ops o48_37) (.ret)
def c48_0 : ACode := .seq (.ops o48_1) (.seq (.ops o48_3) (.seq (.seq (.ops o48_6) (.block 0 (.clear zl65 (.loop b48_8)))) (.clear zl66 c48_36)))
def a48 : AFun := ⟨62, [.tmp 6], c48_0⟩
theorem ok48 : OkFun Try.prog 48 a48 := ⟨Try.f48, Try.f48.body.getD .skip, Try.func48, by kernel_rfl, by kernel_rfl, by kernel_rfl, by kernel_rfl, by kernel_rfl⟩
/-! #### skylightref30.Memory.Load -/
def o49_1 : List AOper := [⟨some 4, .mv (.const (.int .u64 0)), none⟩,
  ⟨some 5, .mv (.const (.bool false)), none⟩]
def o49_3 : List AOper := [⟨some 6, .mv (.tmp 0), none⟩,
  ⟨some 7, .nilCheck (.tmp 6), none⟩,
  ⟨some 8, .fieldAddr 1 (.tmp 7), none⟩,
  ⟨some 9, .load false [.int .i64] (.tmp 8), none⟩,
  ⟨some 10, .bin .add (.tmp 9) (.const (.int .i64 1)), none⟩,
  ⟨some 11, .nilCheck (.tmp 6), none⟩,
  ⟨some 12, .fieldAddr 1 (.tmp 11), none⟩,
  ⟨none, .store 1 (.tmp 12) (.tmp 10), none⟩]
def o49_6 : List AOper := [⟨some 13, .mv (.tmp 1), none⟩,
  ⟨some 14, .bin .lss (.tmp 13) (.const (.int .i64 0)), none⟩,
  ⟨some 15, .mv (.tmp 14), none⟩,
  ⟨some 16, .mv (.tmp 1), some (15, false)⟩,
  ⟨some 17, .mv (.tmp 0), some (15, false)⟩,
  ⟨some 18, .nilCheck (.tmp 17), some (15, false)⟩,
  ⟨some 19, .fieldAddr 0 (.tmp 18), some (15, false)⟩,
  ⟨some 20, .load false [.slice] (.tmp 19), some (15, false)⟩,
  ⟨some 21, .len (.tmp 20), some (15, false)⟩,
  ⟨some 22, .bin .geq (.tmp 16) (.tmp 21), some (15, false)⟩,
  ⟨some 23, .pick (.tmp 15) (.const (.bool true)) (.tmp 22), none⟩]
def o49_9 : List AOper := [⟨some 4, .mv (.const (.int .u64 0)), none⟩,
  ⟨some 5, .mv (.const (.bool false)), none⟩]
def o49_13 : List AOper := [⟨some 24, .mv (.tmp 0), none⟩,
  ⟨some 25, .nilCheck (.tmp 24), none⟩,
  ⟨some 26, .fieldAddr 0 (.tmp 25), none⟩,
  ⟨some 27, .load false [.slice] (.tmp 26), none⟩,
  ⟨some 28, .mv (.tmp 1), none⟩,
  ⟨some 29, .indexAddr 1 (.tmp 27) (.tmp 28), none⟩,
  ⟨some 30, .load false [.int .u64] (.tmp 29), none⟩,
  ⟨some 4, .mv (.tmp 30), none⟩,
  ⟨some 5, .mv (.const (.bool true)), none⟩]
def c49_0 : ACode := .seq (.ops o49_1) (.seq (.ops o49_3) (.seq (.seq (.ops o49_6) (.cond (.tmp 23) (.seq (.ops o49_9) (.ret)) (.skip))) (.seq (.ops o49_13) (.ret))))
def a49 : AFun := ⟨31, [.tmp 4, .tmp 5], c49_0⟩
theorem ok49 : OkFun Try.prog 49 a49 := ⟨Try.f49, Try.f49.body.getD .skip, Try.func49, by kernel_rfl, by kernel_rfl, by kernel_rfl, by kernel_rfl, by kernel_rfl⟩
/-! #### skylightref30.Memory.Cas -/
def o50_1 : List AOper := [⟨some 8, .mv (.const (.bool false)), none⟩]
def o50_3 : List AOper := [⟨some 9, .mv (.tmp 0), none⟩,
  ⟨some 10, .nilCheck (.tmp 9), none⟩,
  ⟨some 11, .fieldAddr 1 (.tmp 10), none⟩,
  ⟨some 12, .load false [.int .i64] (.tmp 11), none⟩,
  ⟨some 13, .bin .add (.tmp 12) (.const (.int .i64 1)), none⟩,
  ⟨some 14, .nilCheck (.tmp 9), none⟩,
  ⟨some 15, .fieldAddr 1 (.tmp 14), none⟩,
  ⟨none, .store 1 (.tmp 15) (.tmp 13), none⟩]
def o50_6 : List AOper := [⟨some 16, .mv (.tmp 1), none⟩,
  ⟨some 17, .bin .lss (.tmp 16) (.const (.int .i64 0)), none⟩,
  ⟨some 18, .mv (.tmp 17), none⟩,
  ⟨some 19, .mv (.tmp 1), some (18, false)⟩,
  ⟨some 20, .mv (.tmp 0), some (18, false)⟩,
  ⟨some 21, .nilCheck (.tmp 20), some (18, false)⟩,
  ⟨some 22, .fieldAddr 0 (.tmp 21), some (18, false)⟩,
  ⟨some 23, .load false [.slice] (.tmp 22), some (18, false)⟩,
  ⟨some 24, .len (.tmp 23), some (18, false)⟩,
  ⟨some 25, .bin .geq (.tmp 19) (.tmp 24), some (18, false)⟩,
  ⟨some 26, .pick (.tmp 18) (.const (.bool true)) (.tmp 25), none⟩,
  ⟨some 27, .mv (.tmp 26), none⟩,
  ⟨some 28, .mv (.tmp 0), some (27, false)⟩,
  ⟨some 29, .nilCheck (.tmp 28), some (27, false)⟩,
  ⟨some 30, .fieldAddr 0 (.tmp 29), some (27, false)⟩,
  ⟨some 31, .load false [.slice] (.tmp 30), some (27, false)⟩,
  ⟨some 32, .mv (.tmp 1), some (27, false)⟩,
  ⟨some 33, .indexAddr 1 (.tmp 31) (.tmp 32), some (27, false)⟩,
  ⟨some 34, .load false [.int .u64] (.tmp 33), some (27, false)⟩,
  ⟨some 35, .mv (.tmp 2), some (27, false)⟩,
  ⟨some 36, .bin .neq (.tmp 34) (.tmp 35), some (27, false)⟩,
  ⟨some 37, .pick (.tmp 27) (.const (.bool true)) (.tmp 36), none⟩]
def o50_9 : List AOper := [⟨some 8, .mv (.const (.bool false)), none⟩]
def o50_13 : List AOper := [⟨some 38, .mv (.tmp 0), none⟩,
  ⟨some 39, .nilCheck (.tmp 38), none⟩,
  ⟨some 40, .fieldAddr 0 (.tmp 39), none⟩,
  ⟨some 41, .load false [.slice] (.tmp 40), none⟩,
  ⟨some 42, .mv (.tmp 1), none⟩,
  ⟨some 43, .mv (.tmp 3), none⟩,
  ⟨some 44, .indexAddr 1 (.tmp 41) (.tmp 42), none⟩,
  ⟨none, .store 1 (.tmp 44) (.tmp 43), none⟩]
def o50_15 : List AOper := [⟨some 45, .mv (.tmp 0), none⟩,
  ⟨some 46, .nilCheck (.tmp 45), none⟩,
  ⟨some 47, .fieldAddr 2 (.tmp 46), none⟩,
  ⟨some 48, .load false [.int .i64] (.tmp 47), none⟩,
  ⟨some 49, .bin .add (.tmp 48) (.const (.int .i64 1)), none⟩,
  ⟨some 50, .nilCheck (.tmp 45), none⟩,
  ⟨some 51, .fieldAddr 2 (.tmp 50), none⟩,
  ⟨none, .store 1 (.tmp 51) (.tmp 49), none⟩]
def o50_17 : List AOper := [⟨some 8, .mv (.const (.bool true)), none⟩]
def c50_0 : ACode := .seq (.ops o50_1) (.seq (.ops o50_3) (.seq (.seq (.ops o50_6) (.cond (.tmp 37) (.seq (.ops o50_9) (.ret)) (.skip))) (.seq (.ops o50_13) (.seq (.ops o50_15) (.seq (.ops o50_17) (.ret))))))
def a50 : AFun := ⟨52, [.tmp 8], c50_0⟩
theorem ok50 : OkFun Try.prog 50 a50 := ⟨Try.f50, Try.f50.body.getD .skip, Try.func50, by kernel_rfl, by kernel_rfl, by kernel_rfl, by kernel_rfl, by kernel_rfl⟩
/-! #### skylightref34.Peek.cell -/
def o51_1 : List AOper := [⟨some 4, .mv (.const (.int .i64 0)), none⟩]
def o51_3 : List AOper := [⟨some 6, .mv (.tmp 0), none⟩,
  ⟨some 7, .nilCheck (.tmp 6), none⟩,
  ⟨some 8, .fieldAddr 0 (.tmp 7), none⟩,
  ⟨some 9, .fieldAddr 1 (.tmp 8), none⟩,
  ⟨some 10, .load false [.int .i64] (.tmp 9), none⟩,
  ⟨some 5, .mv (.tmp 10), none⟩]
def o51_6 : List AOper := [⟨some 11, .mv (.tmp 1), none⟩,
  ⟨some 12, .mv (.tmp 5), none⟩,
  ⟨some 13, .bin .lss (.tmp 11) (.tmp 12), none⟩]
def o51_9 : List AOper := [⟨some 14, .mv (.tmp 0), none⟩,
  ⟨some 15, .nilCheck (.tmp 14), none⟩,
  ⟨some 16, .fieldAddr 0 (.tmp 15), none⟩,
  ⟨some 17, .load true [.int .i64, .int .i64] (.tmp 16), none⟩,
  ⟨some 18, .mv (.tmp 1), none⟩,
  ⟨some 19, .build [.int .i64 0, .int .i64 0, .int .i64 0] [(0, 1, .const (.int .i64 3)), (1, 1, .tmp 18)], none⟩,
  ⟨some 20, .call true (.func 59) [.tmp 17, .tmp 19] [(false, [.int .i64])] true, none⟩,
  ⟨some 4, .mv (.tmp 20), none⟩]
def o51_14 : List AOper := [⟨some 21, .mv (.tmp 1), none⟩,
  ⟨some 22, .mv (.tmp 5), none⟩,
  ⟨some 23, .mv (.tmp 0), none⟩,
  ⟨some 24, .nilCheck (.tmp 23), none⟩,
  ⟨some 25, .fieldAddr 0 (.tmp 24), none⟩,
  ⟨some 26, .fieldAddr 0 (.tmp 25), none⟩,
  ⟨some 27, .load false [.int .i64] (.tmp 26), none⟩,
  ⟨some 28, .bin .mul (.const (.int .i64 3)) (.tmp 27), none⟩,
  ⟨some 29, .bin .add (.tmp 22) (.tmp 28), none⟩,
  ⟨some 30, .bin .lss (.tmp 21) (.tmp 29), none⟩]
def o51_17 : List AOper := [⟨some 31, .mv (.tmp 0), none⟩,
  ⟨some 32, .nilCheck (.tmp 31), none⟩,
  ⟨some 33, .fieldAddr 0 (.tmp 32), none⟩,
  ⟨some 34, .load true [.int .i64, .int .i64] (.tmp 33), none⟩,
  ⟨some 35, .build [.int .i64 0, .int .i64 0, .int .i64 0] [(0, 1, .const (.int .i64 4))], none⟩,
  ⟨some 36, .call true (.func 59) [.tmp 34, .tmp 35] [(false, [.int .i64])] true, none⟩,
  ⟨some 37, .mv (.tmp 1), none⟩,
  ⟨some 38, .bin .add (.tmp 36) (.tmp 37), none⟩,
  ⟨some 39, .mv (.tmp 5), none⟩,
  ⟨some 40, .bin .sub (.tmp 38) (.tmp 39), none⟩,
  ⟨some 4, .mv (.tmp 40), none⟩]
def o51_21 : List (AOper × Option Nat) := [(⟨some 41, .mv (.tmp 0), none⟩, none),
  (⟨some 42, .nilCheck (.tmp 41), none⟩, none),
  (⟨some 43, .fieldAddr 0 (.tmp 42), none⟩, none),
  (⟨some 44, .load true [.int .i64, .int .i64] (.tmp 43), none⟩, none),
  (⟨some 45, .mv (.tmp 1), none⟩, none),
  (⟨some 46, .mv (.tmp 5), none⟩, none),
  (⟨some 47, .bin .sub (.tmp 45) (.tmp 46), none⟩, none),
  (⟨some 48, .mv (.tmp 0), none⟩, none),
  (⟨some 49, .nilCheck (.tmp 48), none⟩, none),
  (⟨some 50, .fieldAddr 0 (.tmp 49), none⟩, none),
  (⟨some 51, .fieldAddr 0 (.tmp 50), none⟩, none),
  (⟨some 52, .load false [.int .i64] (.tmp 51), none⟩, none),
  (⟨some 53, .bin .mul (.const (.int .i64 3)) (.tmp 52), none⟩, none),
  (⟨some 54, .bin .sub (.tmp 47) (.tmp 53), none⟩, none),
  (⟨some 55, .build [.int .i64 0, .int .i64 0, .int .i64 0] [(0, 1, .const (.int .i64 2)), (1, 1, .tmp 54)], none⟩, none),
  (⟨some 56, .call true (.func 59) [.tmp 44, .tmp 55] [(false, [.int .i64])] true, none⟩, none),
  (⟨some 4, .mv (.tmp 56), none⟩, none)]
def c51_0 : ACode := .seq (.ops o51_1) (.seq (.ops o51_3) (.seq (.seq (.ops o51_6) (.cond (.tmp 13) (.seq (.ops o51_9) (.ret)) (.skip))) (.seq (.seq (.ops o51_14) (.cond (.tmp 30) (.seq (.ops o51_17) (.ret)) (.skip))) (.seq (.draw [] 0 o51_21 []) (.ret)))))
def a51 : AFun := ⟨57, [.tmp 4], c51_0⟩
theorem ok51 : OkFun Try.prog 51 a51 := ⟨Try.f51, Try.f51.body.getD .skip, Try.func51, by kernel_rfl, by kernel_rfl, by kernel_rfl, by kernel_rfl, by kernel_rfl⟩
/-! #### cell.Memory.Cells -/
def o52_1 : List AOper := [⟨some 6, .mv (.const (.slice none 0 0)), none⟩]
def o52_3 : List AOper := [⟨some 9, .mv (.tmp 0), none⟩,
  ⟨some 10, .call false (.func 41) [.tmp 9] [(false, [.int .i64])] true, none⟩,
  ⟨some 7, .mv (.tmp 10), none⟩]
def o52_6 : List AOper := [⟨some 11, .mv (.tmp 1), none⟩,
  ⟨some 12, .bin .lss (.tmp 11) (.const (.int .i64 0)), none⟩,
  ⟨some 13, .mv (.tmp 12), none⟩,
  ⟨some 14, .mv (.tmp 2), some (13, false)⟩,
  ⟨some 15, .bin .lss (.tmp 14) (.const (.int .i64 0)), some (13, false)⟩,
  ⟨some 16, .pick (.tmp 13) (.const (.bool true)) (.tmp 15), none⟩,
  ⟨some 17, .mv (.tmp 16), none⟩,
  ⟨some 18, .mv (.tmp 1), some (17, false)⟩,
  ⟨some 19, .mv (.tmp 7), some (17, false)⟩,
  ⟨some 20, .bin .geq (.tmp 18) (.tmp 19), some (17, false)⟩,
  ⟨some 21, .pick (.tmp 17) (.const (.bool true)) (.tmp 20), none⟩]
def o52_9 : List AOper := [⟨some 6, .mv (.const (.slice none 0 0)), none⟩]
def o52_13 : List AOper := [⟨some 22, .mv (.tmp 2), none⟩,
  ⟨some 23, .mv (.tmp 7), none⟩,
  ⟨some 24, .mv (.tmp 1), none⟩,
  ⟨some 25, .bin .sub (.tmp 23) (.tmp 24), none⟩,
  ⟨some 26, .minmax false [.tmp 22, .tmp 25], none⟩,
  ⟨some 27, .makeSlice 1 8 [.int .u64 0] (.tmp 26) (.tmp 26), none⟩,
  ⟨some 8, .mv (.tmp 27), none⟩]
def o52_15 : List AOper := [⟨some 28, .mv (.tmp 8), none⟩,
  ⟨some 29, .mv (.tmp 0), none⟩,
  ⟨some 30, .nilCheck (.tmp 29), none⟩,
  ⟨some 31, .fieldAddr 1 (.tmp 30), none⟩,
  ⟨some 32, .load false [.slice] (.tmp 31), none⟩,
  ⟨some 33, .mv (.tmp 1), none⟩,
  ⟨some 34, .slice 1 (.tmp 32) (some (.tmp 33)) none, none⟩,
  ⟨some 35, .copy 1 (.tmp 28) (.tmp 34), none⟩]
def o52_17 : List AOper := [⟨some 36, .mv (.tmp 8), none⟩,
  ⟨some 6, .mv (.tmp 36), none⟩]
def c52_0 : ACode := .seq (.ops o52_1) (.seq (.ops o52_3) (.seq (.seq (.ops o52_6) (.cond (.tmp 21) (.seq (.ops o52_9) (.ret)) (.skip))) (.seq (.ops o52_13) (.seq (.ops o52_15) (.seq (.ops o52_17) (.ret))))))
def a52 : AFun := ⟨37, [.tmp 6], c52_0⟩
theorem ok52 : OkFun Try.prog 52 a52 := ⟨Try.f52, Try.f52.body.getD .skip, Try.func52, by kernel_rfl, by kernel_rfl, by kernel_rfl, by kernel_rfl, by kernel_rfl⟩
/-! #### layout.Layout.begins -/
def o53_1 : List AOper := [⟨some 2, .box (.tmp 0), none⟩,
  ⟨some 4, .mv (.const (.int .i64 0)), none⟩]
def o53_4 : List AOper := [⟨some 5, .mv (.tmp 1), none⟩]
def o53_7 : List AOper := [⟨some 7, .bin .eql (.tmp 5) (.const (.int .i64 1)), none⟩,
  ⟨some 6, .mv (.tmp 7), none⟩]
def o53_10 : List AOper := [⟨some 4, .mv (.const (.int .i64 0)), none⟩]
def o53_13 : List AOper := [⟨some 9, .bin .eql (.tmp 5) (.const (.int .i64 2)), none⟩,
  ⟨some 8, .mv (.tmp 9), none⟩]
def o53_16 : List AOper := [⟨some 4, .mv (.const (.int .i64 1)), none⟩]
def o53_19 : List AOper := [⟨some 11, .bin .eql (.tmp 5) (.const (.int .i64 3)), none⟩,
  ⟨some 10, .mv (.tmp 11), none⟩]
def o53_22 : List AOper := [⟨some 12, .fieldAddr 1 (.tmp 2), none⟩,
  ⟨some 13, .load false [.int .i64] (.tmp 12), none⟩,
  ⟨some 14, .bin .add (.const (.int .i64 1)) (.tmp 13), none⟩,
  ⟨some 4, .mv (.tmp 14), none⟩]
def o53_26 : List AOper := [⟨some 15, .fieldAddr 1 (.tmp 2), none⟩,
  ⟨some 16, .load false [.int .i64] (.tmp 15), none⟩,
  ⟨some 17, .bin .mul (.const (.int .i64 2)) (.tmp 16), none⟩,
  ⟨some 18, .bin .add (.const (.int .i64 1)) (.tmp 17), none⟩,
  ⟨some 4, .mv (.tmp 18), none⟩]
def c53_25 : ACode := .seq (.ops o53_26) (.ret)
def c53_0 : ACode := .seq (.ops o53_1) (.seq (.seq (.ops o53_4) (.block 0 (.seq (.ops o53_7) (.cond (.tmp 6) (.seq (.ops o53_10) (.ret)) (.seq (.ops o53_13) (.cond (.tmp 8) (.seq (.ops o53_16) (.ret)) (.seq (.ops o53_19) (.cond (.tmp 10) (.seq (.ops o53_22) (.ret)) (.skip))))))))) (.clear zl67 c53_25))
def a53 : AFun := ⟨19, [.tmp 4], c53_0⟩
theorem ok53 : OkFun Try.prog 53 a53 := ⟨Try.f53, Try.f53.body.getD .skip, Try.func53, by kernel_rfl, by kernel_rfl, by kernel_rfl, by kernel_rfl, by kernel_rfl⟩
/-! #### layout.Layout.place -/
def o54_1 : List AOper := [⟨some 4, .box (.tmp 0), none⟩,
  ⟨some 8, .mv (.const (.int .i64 0)), none⟩]
def o54_4 : List AOper := [⟨some 9, .load true [.int .i64, .int .i64] (.tmp 4), none⟩,
  ⟨some 10, .call true (.func 36) [.tmp 9] [(false, [.bool])] true, none⟩,
  ⟨some 11, .un .not (.tmp 10), none⟩,
  ⟨some 12, .mv (.tmp 11), none⟩,
  ⟨some 13, .mv (.tmp 2), some (12, false)⟩,
  ⟨some 14, .bin .lss (.tmp 13) (.const (.int .i64 0)), some (12, false)⟩,
  ⟨some 15, .pick (.tmp 12) (.const (.bool true)) (.tmp 14), none⟩,
  ⟨some 16, .mv (.tmp 15), none⟩,
  ⟨some 17, .mv (.tmp 2), some (16, false)⟩,
  ⟨some 18, .mv (.tmp 3), some (16, false)⟩,
  ⟨some 19, .bin .geq (.tmp 17) (.tmp 18), some (16, false)⟩,
  ⟨some 20, .pick (.tmp 16) (.const (.bool true)) (.tmp 19), none⟩]
def o54_7 : List AOper := [⟨some 8, .mv (.const (.int .i64 (-1))), none⟩]
def o54_11 : List AOper := [⟨some 21, .load true [.int .i64, .int .i64] (.tmp 4), none⟩,
  ⟨some 22, .mv (.tmp 1), none⟩,
  ⟨some 23, .call true (.func 53) [.tmp 21, .tmp 22] [(false, [.int .i64])] true, none⟩,
  ⟨some 24, .mv (.tmp 2), none⟩,
  ⟨some 25, .bin .add (.tmp 23) (.tmp 24), none⟩,
  ⟨some 8, .mv (.tmp 25), none⟩]
def c54_0 : ACode := .seq (.ops o54_1) (.seq (.seq (.ops o54_4) (.cond (.tmp 20) (.seq (.ops o54_7) (.ret)) (.skip))) (.seq (.ops o54_11) (.ret)))
def a54 : AFun := ⟨26, [.tmp 8], c54_0⟩
theorem ok54 : OkFun Try.prog 54 a54 := ⟨Try.f54, Try.f54.body.getD .skip, Try.func54, by kernel_rfl, by kernel_rfl, by kernel_rfl, by kernel_rfl, by kernel_rfl⟩
/-! #### flush.adds$1 -/
def o55_2 : List AOper := [⟨some 9, .mv (.tmp 0), none⟩,
  ⟨some 10, .load true [.int .i64, .int .i64] (.tmp 1), none⟩,
  ⟨some 11, .load false [.int .i64] (.tmp 2), none⟩,
  ⟨some 12, .call true (.func 37) [.tmp 10, .tmp 11] [(false, [.int .i64])] true, none⟩,
  ⟨some 13, .build [.int .i64 0, .int .u64 0] [(0, 1, .tmp 12), (1, 1, .const (.int .u64 1))], none⟩,
  ⟨some 14, .call false (.tmp 9) [.tmp 13] [(false, [.bool])] true, none⟩,
  ⟨some 15, .un .not (.tmp 14), none⟩]
def o55_8 : List AOper := [⟨some 16, .load false [.slice] (.tmp 3), none⟩,
  ⟨some 17, .len (.tmp 16), none⟩,
  ⟨some 18, .mv (.const (.int .i64 0)), none⟩]
def o55_12 : List AOper := [⟨some 19, .bin .lss (.tmp 18) (.tmp 17), none⟩]
def o55_20 : List AOper := [⟨some 20, .indexAddr 4 (.tmp 16) (.tmp 18), none⟩,
  ⟨some 21, .load true [.int .i64, .int .u64, .int .u64, .int .u64] (.tmp 20), none⟩,
  ⟨some 6, .alloc [.int .i64 0, .int .u64 0, .int .u64 0, .int .u64 0], none⟩,
  ⟨none, .store 4 (.tmp 6) (.tmp 21), none⟩]
def o55_22 : List AOper := [⟨some 22, .fieldAddr 1 (.tmp 6), none⟩,
  ⟨some 23, .load true [.int .u64, .int .u64, .int .u64] (.tmp 22), none⟩,
  ⟨some 24, .mv (.const (.int .i64 0)), none⟩]
def o55_26 : List AOper := [⟨some 25, .bin .lss (.tmp 24) (.const (.int .i64 3)), none⟩]
def o55_34 : List AOper := [⟨some 26, .mv (.tmp 24), none⟩,
  ⟨some 27, .index false 3 1 (.tmp 23) (.tmp 24), none⟩,
  ⟨some 7, .mv (.tmp 26), none⟩,
  ⟨some 8, .mv (.tmp 27), none⟩]
def o55_36 : List AOper := [⟨some 28, .mv (.tmp 8), none⟩,
  ⟨some 29, .bin .neq (.tmp 28) (.const (.int .u64 0)), none⟩,
  ⟨some 30, .mv (.tmp 29), none⟩,
  ⟨some 31, .mv (.tmp 0), some (30, true)⟩,
  ⟨some 32, .load true [.int .i64, .int .i64] (.tmp 1), some (30, true)⟩,
  ⟨some 33, .fieldAddr 0 (.tmp 6), some (30, true)⟩,
  ⟨some 34, .load false [.int .i64] (.tmp 33), some (30, true)⟩,
  ⟨some 35, .mv (.tmp 7), some (30, true)⟩,
  ⟨some 36, .call true (.func 56) [.tmp 32, .tmp 34, .tmp 35] [(false, [.int .i64])] true, some (30, true)⟩,
  ⟨some 37, .mv (.tmp 8), some (30, true)⟩,
  ⟨some 38, .build [.int .i64 0, .int .u64 0] [(0, 1, .tmp 36), (1, 1, .tmp 37)], some (30, true)⟩,
  ⟨some 39, .call false (.tmp 31) [.tmp 38] [(false, [.bool])] true, some (30, true)⟩,
  ⟨some 40, .un .not (.tmp 39), some (30, true)⟩,
  ⟨some 41, .pick (.tmp 30) (.tmp 40) (.const (.bool false)), none⟩]
def o55_40 : List AOper := [⟨some 42, .bin .add (.tmp 24) (.const (.int .i64 1)), none⟩,
  ⟨some 24, .mv (.tmp 42), none⟩]
def c55_40 : ACode := .ops o55_40
def b55_24 : ACode := .post (.seq (.ops o55_26) (.seq (.cond (.tmp 25) (.skip) (.exit 2)) (.seq (.block 3 (.seq (.ops o55_34) (.seq (.ops o55_36) (.cond (.tmp 41) (.ret) (.skip))))) (.clear zl68 c55_40)))) zl68
def o55_41 : List AOper := [⟨some 43, .bin .add (.tmp 18) (.const (.int .i64 1)), none⟩,
  ⟨some 18, .mv (.tmp 43), none⟩]
def c55_41 : ACode := .ops o55_41
def b55_10 : ACode := .post (.seq (.ops o55_12) (.seq (.cond (.tmp 19) (.skip) (.exit 0)) (.seq (.block 1 (.seq (.ops o55_20) (.seq (.ops o55_22) (.block 2 (.clear zl68 (.loop b55_24)))))) (.clear zl69 c55_41)))) zl69
def o55_42 : List AOper := [⟨some 44, .mv (.tmp 0), none⟩,
  ⟨some 45, .load true [.int .i64, .int .i64] (.tmp 1), none⟩,
  ⟨some 46, .load false [.int .i64] (.tmp 2), none⟩,
  ⟨some 47, .call true (.func 57) [.tmp 45, .tmp 46] [(false, [.int .i64])] true, none⟩,
  ⟨some 48, .build [.int .i64 0, .int .u64 0] [(0, 1, .tmp 47), (1, 1, .const (.int .u64 1))], none⟩,
  ⟨some 49, .call false (.tmp 44) [.tmp 48] [(false, [.bool])] true, none⟩]
def c55_42 : ACode := .ops o55_42
def c55_0 : ACode := .seq (.seq (.ops o55_2) (.cond (.tmp 15) (.ret) (.skip))) (.seq (.seq (.ops o55_8) (.block 0 (.clear zl69 (.loop b55_10)))) (.clear zl70 c55_42))
def a55 : AFun := ⟨50, [], c55_0⟩
theorem ok55 : OkFun Try.prog 55 a55 := ⟨Try.f55, Try.f55.body.getD .skip, Try.func55, by kernel_rfl, by kernel_rfl, by kernel_rfl, by kernel_rfl, by kernel_rfl⟩
/-! #### layout.Channel -/
def o56_1 : List AOper := [⟨some 3, .box (.tmp 0), none⟩,
  ⟨some 6, .mv (.const (.int .i64 0)), none⟩]
def o56_4 : List AOper := [⟨some 7, .mv (.tmp 2), none⟩,
  ⟨some 8, .bin .lss (.tmp 7) (.const (.int .i64 0)), none⟩,
  ⟨some 9, .mv (.tmp 8), none⟩,
  ⟨some 10, .mv (.tmp 2), some (9, false)⟩,
  ⟨some 11, .bin .geq (.tmp 10) (.const (.int .i64 3)), some (9, false)⟩,
  ⟨some 12, .pick (.tmp 9) (.const (.bool true)) (.tmp 11), none⟩,
  ⟨some 13, .mv (.tmp 12), none⟩,
  ⟨some 14, .mv (.tmp 1), some (13, false)⟩,
  ⟨some 15, .bin .lss (.tmp 14) (.const (.int .i64 0)), some (13, false)⟩,
  ⟨some 16, .pick (.tmp 13) (.const (.bool true)) (.tmp 15), none⟩,
  ⟨some 17, .mv (.tmp 16), none⟩,
  ⟨some 18, .mv (.tmp 1), some (17, false)⟩,
  ⟨some 19, .fieldAddr 0 (.tmp 3), some (17, false)⟩,
  ⟨some 20, .load false [.int .i64] (.tmp 19), some (17, false)⟩,
  ⟨some 21, .bin .geq (.tmp 18) (.tmp 20), some (17, false)⟩,
  ⟨some 22, .pick (.tmp 17) (.const (.bool true)) (.tmp 21), none⟩]
def o56_7 : List AOper := [⟨some 6, .mv (.const (.int .i64 (-1))), none⟩]
def o56_11 : List AOper := [⟨some 23, .load true [.int .i64, .int .i64] (.tmp 3), none⟩,
  ⟨some 24, .mv (.tmp 1), none⟩,
  ⟨some 25, .bin .mul (.const (.int .i64 3)) (.tmp 24), none⟩,
  ⟨some 26, .mv (.tmp 2), none⟩,
  ⟨some 27, .bin .add (.tmp 25) (.tmp 26), none⟩,
  ⟨some 28, .fieldAddr 0 (.tmp 3), none⟩,
  ⟨some 29, .load false [.int .i64] (.tmp 28), none⟩,
  ⟨some 30, .bin .mul (.const (.int .i64 3)) (.tmp 29), none⟩,
  ⟨some 31, .call true (.func 54) [.tmp 23, .const (.int .i64 4), .tmp 27, .tmp 30] [(false, [.int .i64])] true, none⟩,
  ⟨some 6, .mv (.tmp 31), none⟩]
def c56_0 : ACode := .seq (.ops o56_1) (.seq (.seq (.ops o56_4) (.cond (.tmp 22) (.seq (.ops o56_7) (.ret)) (.skip))) (.seq (.ops o56_11) (.ret)))
def a56 : AFun := ⟨32, [.tmp 6], c56_0⟩
theorem ok56 : OkFun Try.prog 56 a56 := ⟨Try.f56, Try.f56.body.getD .skip, Try.func56, by kernel_rfl, by kernel_rfl, by kernel_rfl, by kernel_rfl, by kernel_rfl⟩
/-! #### layout.Ended -/
def o57_1 : List AOper := [⟨some 2, .box (.tmp 0), none⟩,
  ⟨some 4, .mv (.const (.int .i64 0)), none⟩]
def o57_3 : List AOper := [⟨some 5, .load true [.int .i64, .int .i64] (.tmp 2), none⟩,
  ⟨some 6, .mv (.tmp 1), none⟩,
  ⟨some 7, .fieldAddr 1 (.tmp 2), none⟩,
  ⟨some 8, .load false [.int .i64] (.tmp 7), none⟩,
  ⟨some 9, .call true (.func 54) [.tmp 5, .const (.int .i64 3), .tmp 6, .tmp 8] [(false, [.int .i64])] true, none⟩,
  ⟨some 4, .mv (.tmp 9), none⟩]
def c57_0 : ACode := .seq (.ops o57_1) (.seq (.ops o57_3) (.ret))
def a57 : AFun := ⟨10, [.tmp 4], c57_0⟩
theorem ok57 : OkFun Try.prog 57 a57 := ⟨Try.f57, Try.f57.body.getD .skip, Try.func57, by kernel_rfl, by kernel_rfl, by kernel_rfl, by kernel_rfl, by kernel_rfl⟩
/-! #### cell.Memory.at -/
def o58_1 : List AOper := [⟨some 4, .mv (.const (.pointer none)), none⟩]
def o58_4 : List AOper := [⟨some 5, .mv (.tmp 0), none⟩,
  ⟨some 6, .eqNil 0 false (.tmp 5), none⟩,
  ⟨some 7, .mv (.tmp 6), none⟩,
  ⟨some 8, .mv (.tmp 0), some (7, false)⟩,
  ⟨some 9, .nilCheck (.tmp 8), some (7, false)⟩,
  ⟨some 10, .fieldAddr 0 (.tmp 9), some (7, false)⟩,
  ⟨some 11, .load false [.bool] (.tmp 10), some (7, false)⟩,
  ⟨some 12, .un .not (.tmp 11), some (7, false)⟩,
  ⟨some 13, .pick (.tmp 7) (.const (.bool true)) (.tmp 12), none⟩]
def o58_7 : List AOper := [⟨some 4, .mv (.const (.pointer none)), none⟩]
def o58_11 : List AOper := [⟨some 14, .mv (.tmp 0), none⟩,
  ⟨some 15, .nilCheck (.tmp 14), none⟩,
  ⟨some 16, .fieldAddr 2 (.tmp 15), none⟩,
  ⟨some 17, .load false [.int .i64] (.tmp 16), none⟩,
  ⟨some 18, .bin .add (.tmp 17) (.const (.int .i64 1)), none⟩,
  ⟨some 19, .nilCheck (.tmp 14), none⟩,
  ⟨some 20, .fieldAddr 2 (.tmp 19), none⟩,
  ⟨none, .store 1 (.tmp 20) (.tmp 18), none⟩]
def o58_14 : List AOper := [⟨some 21, .mv (.tmp 1), none⟩,
  ⟨some 22, .bin .lss (.tmp 21) (.const (.int .i64 0)), none⟩,
  ⟨some 23, .mv (.tmp 22), none⟩,
  ⟨some 24, .mv (.tmp 1), some (23, false)⟩,
  ⟨some 25, .mv (.tmp 0), some (23, false)⟩,
  ⟨some 26, .nilCheck (.tmp 25), some (23, false)⟩,
  ⟨some 27, .fieldAddr 1 (.tmp 26), some (23, false)⟩,
  ⟨some 28, .load false [.slice] (.tmp 27), some (23, false)⟩,
  ⟨some 29, .len (.tmp 28), some (23, false)⟩,
  ⟨some 30, .bin .geq (.tmp 24) (.tmp 29), some (23, false)⟩,
  ⟨some 31, .pick (.tmp 23) (.const (.bool true)) (.tmp 30), none⟩]
def o58_17 : List AOper := [⟨some 4, .mv (.const (.pointer none)), none⟩]
def o58_21 : List AOper := [⟨some 32, .mv (.tmp 0), none⟩,
  ⟨some 33, .nilCheck (.tmp 32), none⟩,
  ⟨some 34, .fieldAddr 1 (.tmp 33), none⟩,
  ⟨some 35, .load false [.slice] (.tmp 34), none⟩,
  ⟨some 36, .mv (.tmp 1), none⟩,
  ⟨some 37, .indexAddr 1 (.tmp 35) (.tmp 36), none⟩,
  ⟨some 4, .mv (.tmp 37), none⟩]
def c58_0 : ACode := .seq (.ops o58_1) (.seq (.seq (.ops o58_4) (.cond (.tmp 13) (.seq (.ops o58_7) (.ret)) (.skip))) (.seq (.ops o58_11) (.seq (.seq (.ops o58_14) (.cond (.tmp 31) (.seq (.ops o58_17) (.ret)) (.skip))) (.seq (.ops o58_21) (.ret)))))
def a58 : AFun := ⟨38, [.tmp 4], c58_0⟩
theorem ok58 : OkFun Try.prog 58 a58 := ⟨Try.f58, Try.f58.body.getD .skip, Try.func58, by kernel_rfl, by kernel_rfl, by kernel_rfl, by kernel_rfl, by kernel_rfl⟩
/-! #### skylightref31.At -/
def o59_1 : List AOper := [⟨some 2, .box (.tmp 0), none⟩,
  ⟨some 3, .box (.tmp 1), none⟩,
  ⟨some 4, .mv (.const (.int .i64 0)), none⟩]
def o59_4 : List AOper := [⟨some 5, .fieldAddr 0 (.tmp 3), none⟩,
  ⟨some 6, .load false [.int .i64] (.tmp 5), none⟩,
  ⟨some 7, .bin .eql (.tmp 6) (.const (.int .i64 2)), none⟩]
def o59_7 : List AOper := [⟨some 8, .fieldAddr 1 (.tmp 3), none⟩,
  ⟨some 9, .load false [.int .i64] (.tmp 8), none⟩,
  ⟨some 10, .bin .add (.const (.int .i64 1)) (.tmp 9), none⟩,
  ⟨some 4, .mv (.tmp 10), none⟩]
def o59_12 : List AOper := [⟨some 11, .fieldAddr 0 (.tmp 3), none⟩,
  ⟨some 12, .load false [.int .i64] (.tmp 11), none⟩,
  ⟨some 13, .bin .eql (.tmp 12) (.const (.int .i64 3)), none⟩]
def o59_15 : List AOper := [⟨some 14, .fieldAddr 1 (.tmp 2), none⟩,
  ⟨some 15, .load false [.int .i64] (.tmp 14), none⟩,
  ⟨some 16, .bin .add (.const (.int .i64 1)) (.tmp 15), none⟩,
  ⟨some 17, .fieldAddr 1 (.tmp 3), none⟩,
  ⟨some 18, .load false [.int .i64] (.tmp 17), none⟩,
  ⟨some 19, .bin .add (.tmp 16) (.tmp 18), none⟩,
  ⟨some 4, .mv (.tmp 19), none⟩]
def o59_19 : List AOper := [⟨some 20, .fieldAddr 1 (.tmp 2), none⟩,
  ⟨some 21, .load false [.int .i64] (.tmp 20), none⟩,
  ⟨some 22, .bin .mul (.const (.int .i64 2)) (.tmp 21), none⟩,
  ⟨some 23, .bin .add (.const (.int .i64 1)) (.tmp 22), none⟩,
  ⟨some 24, .fieldAddr 1 (.tmp 3), none⟩,
  ⟨some 25, .load false [.int .i64] (.tmp 24), none⟩,
  ⟨some 26, .bin .mul (.const (.int .i64 3)) (.tmp 25), none⟩,
  ⟨some 27, .bin .add (.tmp 23) (.tmp 26), none⟩,
  ⟨some 28, .fieldAddr 2 (.tmp 3), none⟩,
  ⟨some 29, .load false [.int .i64] (.tmp 28), none⟩,
  ⟨some 30, .bin .add (.tmp 27) (.tmp 29), none⟩,
  ⟨some 4, .mv (.tmp 30), none⟩]
def c59_0 : ACode := .seq (.ops o59_1) (.seq (.seq (.ops o59_4) (.cond (.tmp 7) (.seq (.ops o59_7) (.ret)) (.skip))) (.seq (.seq (.ops o59_12) (.cond (.tmp 13) (.seq (.ops o59_15) (.ret)) (.skip))) (.seq (.ops o59_19) (.ret))))
def a59 : AFun := ⟨31, [.tmp 4], c59_0⟩
theorem ok59 : OkFun Try.prog 59 a59 := ⟨Try.f59, Try.f59.body.getD .skip, Try.func59, by kernel_rfl, by kernel_rfl, by kernel_rfl, by kernel_rfl, by kernel_rfl⟩
end Go.Proofs.Ytpnknolehckfhaa
