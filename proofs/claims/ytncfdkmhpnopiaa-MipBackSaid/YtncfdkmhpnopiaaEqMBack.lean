/- What the pieces of some functions come to. -/
import Derived.Test.YtncfdkmhpnopiaaCode
set_option linter.unusedVariables false
set_option maxRecDepth 100000
namespace Go.Proofs.Ytncfdkmhpnopiaa
open Go Go.Ax
/-! #### skylightlaw51.MipBack -/
noncomputable def k4_18 (L : Rec) : KT := retK [.tmp 6]
def s4_18 (x2 : Bool) (x3 : Nat) (x7 : Int) (x8 : Int) (M : AMem) : List Value := [junk, junk, .bool x2, .pointer (some ⟨x3, 0, none⟩), junk, junk, junk, .int .i64 x7, .int .i64 x8, junk, junk, junk, junk, junk, junk, junk, junk, junk, junk, junk, junk, junk, junk, junk, junk, junk, junk, junk, junk, junk, junk, junk, junk, junk, junk, junk, junk, junk, junk, junk, junk, junk, junk, junk, junk, junk, junk, junk, junk, junk, junk, junk, junk, junk, junk, junk, junk, junk, junk, junk, junk, junk, junk, junk, junk, junk, junk, junk, junk, junk, junk, junk, junk, junk, junk, junk, junk, junk, junk, junk, junk, junk, junk, junk, junk, junk, junk, junk, junk, junk, junk, junk, junk, junk, junk, junk, junk, junk, junk, junk, junk, junk, junk, junk, junk, junk, junk, junk, junk, junk, junk, junk, junk, junk, junk, junk, junk, junk, junk, junk, junk, junk, junk, junk, junk, junk, junk, junk, junk, junk, junk, junk, junk, junk, junk, junk, junk, junk, junk, junk, junk, junk, junk, junk, junk, junk, junk, junk, junk, junk, junk, junk, junk, junk, junk, junk, junk, junk, junk, junk, junk, junk, junk, junk, junk, junk, junk, junk]
theorem XP4_18 : ∃ P : Rec → Bool → Nat → Int → Int → AMem → Res, P = fun (L : Rec) (x2 : Bool) (x3 : Nat) (x7 : Int) (x8 : Int) (M : AMem) => code L c4_18 (k4_18 L) (s4_18 x2 x3 x7 x8 M) M := ⟨_, rfl⟩
noncomputable def P4_18 : Rec → Bool → Nat → Int → Int → AMem → Res := Classical.choose XP4_18
noncomputable def k4_24 (L : Rec) : KT := retK [.tmp 6]
def s4_24 (x3 : Nat) (x7 : Int) (x8 : Int) (M : AMem) : List Value := [junk, junk, junk, .pointer (some ⟨x3, 0, none⟩), junk, junk, junk, .int .i64 x7, .int .i64 x8, junk, junk, junk, junk, junk, junk, junk, junk, junk, junk, junk, junk, junk, junk, junk, junk, junk, junk, junk, junk, junk, junk, junk, junk, junk, junk, junk, junk, junk, junk, junk, junk, junk, junk, junk, junk, junk, junk, junk, junk, junk, junk, junk, junk, junk, junk, junk, junk, junk, junk, junk, junk, junk, junk, junk, junk, junk, junk, junk, junk, junk, junk, junk, junk, junk, junk, junk, junk, junk, junk, junk, junk, junk, junk, junk, junk, junk, junk, junk, junk, junk, junk, junk, junk, junk, junk, junk, junk, junk, junk, junk, junk, junk, junk, junk, junk, junk, junk, junk, junk, junk, junk, junk, junk, junk, junk, junk, junk, junk, junk, junk, junk, junk, junk, junk, junk, junk, junk, junk, junk, junk, junk, junk, junk, junk, junk, junk, junk, junk, junk, junk, junk, junk, junk, junk, junk, junk, junk, junk, junk, junk, junk, junk, junk, junk, junk, junk, junk, junk, junk, junk, junk, junk, junk, junk, junk, junk, junk, junk]
theorem XP4_24 : ∃ P : Rec → Nat → Int → Int → AMem → Res, P = fun (L : Rec) (x3 : Nat) (x7 : Int) (x8 : Int) (M : AMem) => code L c4_24 (k4_24 L) (s4_24 x3 x7 x8 M) M := ⟨_, rfl⟩
noncomputable def P4_24 : Rec → Nat → Int → Int → AMem → Res := Classical.choose XP4_24
noncomputable def k4_31 (L : Rec) : KT := seqK (code L (.seq (.ops o4_37) (.seq (.seq (.draw [] 0 o4_40 [(18, 17)]) (.cond (.tmp 103) (.seq (.ops o4_43) (.ret)) (.skip))) (.seq (.seq (.ops o4_48) (.block 0 (.clear [0, 1, 2, 3, 4, 5, 6, 7, 8, 9, 10, 11, 12, 15, 16, 17, 18, 19, 20, 21, 22, 23, 24, 25, 26, 27, 28, 29, 30, 31, 32, 33, 34, 35, 36, 37, 38, 39, 40, 41, 42, 43, 44, 45, 46, 47, 48, 49, 50, 51, 52, 53, 54, 55, 56, 57, 58, 59, 60, 61, 62, 63, 64, 65, 66, 67, 68, 69, 70, 71, 72, 73, 74, 75, 76, 77, 78, 79, 80, 81, 82, 83, 84, 85, 86, 87, 88, 89, 90, 91, 92, 93, 94, 95, 96, 97, 98, 99, 100, 101, 102, 103, 104, 105, 106, 107, 108, 109, 110, 111, 112, 113, 114, 115, 116, 117, 118, 119, 120, 121, 122, 123, 124, 125, 126, 127, 128, 129, 130, 131, 132, 133, 134, 135, 136, 137, 138, 139, 140, 141, 142, 143, 144, 145, 146, 147, 148, 149, 150, 151, 152, 153, 154, 155, 156, 157, 158, 159, 160, 161, 162, 163, 164, 165, 166, 167] (.loop b4_50)))) (.clear [0, 1, 2, 3, 4, 5, 6, 7, 8, 9, 10, 11, 12, 14, 15, 16, 17, 18, 19, 20, 21, 22, 23, 24, 25, 26, 27, 28, 29, 30, 31, 32, 33, 34, 35, 36, 37, 38, 39, 40, 41, 42, 43, 44, 45, 46, 47, 48, 49, 50, 51, 52, 53, 54, 55, 56, 57, 58, 59, 60, 61, 62, 63, 64, 65, 66, 67, 68, 69, 70, 71, 72, 73, 74, 75, 76, 77, 78, 79, 80, 81, 82, 83, 84, 85, 86, 87, 88, 89, 90, 91, 92, 93, 94, 95, 96, 97, 98, 99, 100, 101, 102, 103, 104, 105, 106, 107, 108, 109, 110, 111, 112, 113, 114, 115, 116, 117, 118, 119, 120, 121, 122, 123, 124, 125, 126, 127, 128, 129, 130, 131, 132, 133, 134, 135, 136, 137, 138, 139, 140, 141, 142, 143, 144, 145, 146, 147, 148, 149, 150, 151, 152, 153, 154, 155, 156, 157, 158, 159, 160, 161, 162, 163, 164, 165, 166, 167] c4_67)))) (retK [.tmp 6])) (retK [.tmp 6])
def s4_31 (x3 : Nat) (x78 : Bool) (M : AMem) : List Value := [junk, junk, junk, .pointer (some ⟨x3, 0, none⟩), junk, junk, junk, junk, junk, junk, junk, junk, junk, junk, junk, junk, junk, junk, junk, junk, junk, junk, junk, junk, junk, junk, junk, junk, junk, junk, junk, junk, junk, junk, junk, junk, junk, junk, junk, junk, junk, junk, junk, junk, junk, junk, junk, junk, junk, junk, junk, junk, junk, junk, junk, junk, junk, junk, junk, junk, junk, junk, junk, junk, junk, junk, junk, junk, junk, junk, junk, junk, junk, junk, junk, junk, junk, junk, .bool x78, junk, junk, junk, junk, junk, junk, junk, junk, junk, junk, junk, junk, junk, junk, junk, junk, junk, junk, junk, junk, junk, junk, junk, junk, junk, junk, junk, junk, junk, junk, junk, junk, junk, junk, junk, junk, junk, junk, junk, junk, junk, junk, junk, junk, junk, junk, junk, junk, junk, junk, junk, junk, junk, junk, junk, junk, junk, junk, junk, junk, junk, junk, junk, junk, junk, junk, junk, junk, junk, junk, junk, junk, junk, junk, junk, junk, junk, junk, junk, junk, junk, junk, junk, junk, junk, junk, junk, junk, junk]
theorem XP4_31 : ∃ P : Rec → Nat → Bool → AMem → Res, P = fun (L : Rec) (x3 : Nat) (x78 : Bool) (M : AMem) => code L c4_31 (k4_31 L) (s4_31 x3 x78 M) M := ⟨_, rfl⟩
noncomputable def P4_31 : Rec → Nat → Bool → AMem → Res := Classical.choose XP4_31
noncomputable def k4_50 (L : Rec) : KT := blockK 0 (seqK (code L (.clear [0, 1, 2, 3, 4, 5, 6, 7, 8, 9, 10, 11, 12, 14, 15, 16, 17, 18, 19, 20, 21, 22, 23, 24, 25, 26, 27, 28, 29, 30, 31, 32, 33, 34, 35, 36, 37, 38, 39, 40, 41, 42, 43, 44, 45, 46, 47, 48, 49, 50, 51, 52, 53, 54, 55, 56, 57, 58, 59, 60, 61, 62, 63, 64, 65, 66, 67, 68, 69, 70, 71, 72, 73, 74, 75, 76, 77, 78, 79, 80, 81, 82, 83, 84, 85, 86, 87, 88, 89, 90, 91, 92, 93, 94, 95, 96, 97, 98, 99, 100, 101, 102, 103, 104, 105, 106, 107, 108, 109, 110, 111, 112, 113, 114, 115, 116, 117, 118, 119, 120, 121, 122, 123, 124, 125, 126, 127, 128, 129, 130, 131, 132, 133, 134, 135, 136, 137, 138, 139, 140, 141, 142, 143, 144, 145, 146, 147, 148, 149, 150, 151, 152, 153, 154, 155, 156, 157, 158, 159, 160, 161, 162, 163, 164, 165, 166, 167] c4_67) (retK [.tmp 6])) (retK [.tmp 6]))
def s4_50 (x13 : Option Addr) (x13n : Nat) (x13c : Nat) (x14 : Int) (M : AMem) : List Value := [junk, junk, junk, junk, junk, junk, junk, junk, junk, junk, junk, junk, junk, .slice x13 x13n x13c, .int .i64 x14, junk, junk, junk, junk, junk, junk, junk, junk, junk, junk, junk, junk, junk, junk, junk, junk, junk, junk, junk, junk, junk, junk, junk, junk, junk, junk, junk, junk, junk, junk, junk, junk, junk, junk, junk, junk, junk, junk, junk, junk, junk, junk, junk, junk, junk, junk, junk, junk, junk, junk, junk, junk, junk, junk, junk, junk, junk, junk, junk, junk, junk, junk, junk, junk, junk, junk, junk, junk, junk, junk, junk, junk, junk, junk, junk, junk, junk, junk, junk, junk, junk, junk, junk, junk, junk, junk, junk, junk, junk, junk, junk, junk, junk, junk, junk, junk, junk, junk, junk, junk, junk, junk, junk, junk, junk, junk, junk, junk, junk, junk, junk, junk, junk, junk, junk, junk, junk, junk, junk, junk, junk, junk, junk, junk, junk, junk, junk, junk, junk, junk, junk, junk, junk, junk, junk, junk, junk, junk, junk, junk, junk, junk, junk, junk, junk, junk, junk, junk, junk, junk, junk, junk, junk]
theorem XP4_50 : ∃ P : Rec → (Option Addr) → Nat → Nat → Int → AMem → Res, P = fun (L : Rec) (x13 : Option Addr) (x13n : Nat) (x13c : Nat) (x14 : Int) (M : AMem) => L.loop b4_50 (k4_50 L) (s4_50 x13 x13n x13c x14 M) M := ⟨_, rfl⟩
noncomputable def P4_50 : Rec → (Option Addr) → Nat → Nat → Int → AMem → Res := Classical.choose XP4_50
noncomputable def k4_61 (L : Rec) : KT := blockK 1 (seqK (code L (.clear [0, 1, 2, 3, 4, 5, 6, 7, 8, 9, 10, 11, 12, 15, 16, 17, 18, 19, 20, 21, 22, 23, 24, 25, 26, 27, 28, 29, 30, 31, 32, 33, 34, 35, 36, 37, 38, 39, 40, 41, 42, 43, 44, 45, 46, 47, 48, 49, 50, 51, 52, 53, 54, 55, 56, 57, 58, 59, 60, 61, 62, 63, 64, 65, 66, 67, 68, 69, 70, 71, 72, 73, 74, 75, 76, 77, 78, 79, 80, 81, 82, 83, 84, 85, 86, 87, 88, 89, 90, 91, 92, 93, 94, 95, 96, 97, 98, 99, 100, 101, 102, 103, 104, 105, 106, 107, 108, 109, 110, 111, 112, 113, 114, 115, 116, 117, 118, 119, 120, 121, 122, 123, 124, 125, 126, 127, 128, 129, 130, 131, 132, 133, 134, 135, 136, 137, 138, 139, 140, 141, 142, 143, 144, 145, 146, 147, 148, 149, 150, 151, 152, 153, 154, 155, 156, 157, 158, 159, 160, 161, 162, 163, 164, 165, 166, 167] c4_66) (postK [0, 1, 2, 3, 4, 5, 6, 7, 8, 9, 10, 11, 12, 15, 16, 17, 18, 19, 20, 21, 22, 23, 24, 25, 26, 27, 28, 29, 30, 31, 32, 33, 34, 35, 36, 37, 38, 39, 40, 41, 42, 43, 44, 45, 46, 47, 48, 49, 50, 51, 52, 53, 54, 55, 56, 57, 58, 59, 60, 61, 62, 63, 64, 65, 66, 67, 68, 69, 70, 71, 72, 73, 74, 75, 76, 77, 78, 79, 80, 81, 82, 83, 84, 85, 86, 87, 88, 89, 90, 91, 92, 93, 94, 95, 96, 97, 98, 99, 100, 101, 102, 103, 104, 105, 106, 107, 108, 109, 110, 111, 112, 113, 114, 115, 116, 117, 118, 119, 120, 121, 122, 123, 124, 125, 126, 127, 128, 129, 130, 131, 132, 133, 134, 135, 136, 137, 138, 139, 140, 141, 142, 143, 144, 145, 146, 147, 148, 149, 150, 151, 152, 153, 154, 155, 156, 157, 158, 159, 160, 161, 162, 163, 164, 165, 166, 167] (loopK L b4_50 (blockK 0 (seqK (code L (.clear [0, 1, 2, 3, 4, 5, 6, 7, 8, 9, 10, 11, 12, 14, 15, 16, 17, 18, 19, 20, 21, 22, 23, 24, 25, 26, 27, 28, 29, 30, 31, 32, 33, 34, 35, 36, 37, 38, 39, 40, 41, 42, 43, 44, 45, 46, 47, 48, 49, 50, 51, 52, 53, 54, 55, 56, 57, 58, 59, 60, 61, 62, 63, 64, 65, 66, 67, 68, 69, 70, 71, 72, 73, 74, 75, 76, 77, 78, 79, 80, 81, 82, 83, 84, 85, 86, 87, 88, 89, 90, 91, 92, 93, 94, 95, 96, 97, 98, 99, 100, 101, 102, 103, 104, 105, 106, 107, 108, 109, 110, 111, 112, 113, 114, 115, 116, 117, 118, 119, 120, 121, 122, 123, 124, 125, 126, 127, 128, 129, 130, 131, 132, 133, 134, 135, 136, 137, 138, 139, 140, 141, 142, 143, 144, 145, 146, 147, 148, 149, 150, 151, 152, 153, 154, 155, 156, 157, 158, 159, 160, 161, 162, 163, 164, 165, 166, 167] c4_67) (retK [.tmp 6])) (retK [.tmp 6])))))) (postK [0, 1, 2, 3, 4, 5, 6, 7, 8, 9, 10, 11, 12, 15, 16, 17, 18, 19, 20, 21, 22, 23, 24, 25, 26, 27, 28, 29, 30, 31, 32, 33, 34, 35, 36, 37, 38, 39, 40, 41, 42, 43, 44, 45, 46, 47, 48, 49, 50, 51, 52, 53, 54, 55, 56, 57, 58, 59, 60, 61, 62, 63, 64, 65, 66, 67, 68, 69, 70, 71, 72, 73, 74, 75, 76, 77, 78, 79, 80, 81, 82, 83, 84, 85, 86, 87, 88, 89, 90, 91, 92, 93, 94, 95, 96, 97, 98, 99, 100, 101, 102, 103, 104, 105, 106, 107, 108, 109, 110, 111, 112, 113, 114, 115, 116, 117, 118, 119, 120, 121, 122, 123, 124, 125, 126, 127, 128, 129, 130, 131, 132, 133, 134, 135, 136, 137, 138, 139, 140, 141, 142, 143, 144, 145, 146, 147, 148, 149, 150, 151, 152, 153, 154, 155, 156, 157, 158, 159, 160, 161, 162, 163, 164, 165, 166, 167] (loopK L b4_50 (blockK 0 (seqK (code L (.clear [0, 1, 2, 3, 4, 5, 6, 7, 8, 9, 10, 11, 12, 14, 15, 16, 17, 18, 19, 20, 21, 22, 23, 24, 25, 26, 27, 28, 29, 30, 31, 32, 33, 34, 35, 36, 37, 38, 39, 40, 41, 42, 43, 44, 45, 46, 47, 48, 49, 50, 51, 52, 53, 54, 55, 56, 57, 58, 59, 60, 61, 62, 63, 64, 65, 66, 67, 68, 69, 70, 71, 72, 73, 74, 75, 76, 77, 78, 79, 80, 81, 82, 83, 84, 85, 86, 87, 88, 89, 90, 91, 92, 93, 94, 95, 96, 97, 98, 99, 100, 101, 102, 103, 104, 105, 106, 107, 108, 109, 110, 111, 112, 113, 114, 115, 116, 117, 118, 119, 120, 121, 122, 123, 124, 125, 126, 127, 128, 129, 130, 131, 132, 133, 134, 135, 136, 137, 138, 139, 140, 141, 142, 143, 144, 145, 146, 147, 148, 149, 150, 151, 152, 153, 154, 155, 156, 157, 158, 159, 160, 161, 162, 163, 164, 165, 166, 167] c4_67) (retK [.tmp 6])) (retK [.tmp 6]))))))
def s4_61 (x13 : Option Addr) (x13n : Nat) (x13c : Nat) (x14 : Int) (x148 : Bool) (M : AMem) : List Value := [junk, junk, junk, junk, junk, junk, junk, junk, junk, junk, junk, junk, junk, .slice x13 x13n x13c, .int .i64 x14, junk, junk, junk, junk, junk, junk, junk, junk, junk, junk, junk, junk, junk, junk, junk, junk, junk, junk, junk, junk, junk, junk, junk, junk, junk, junk, junk, junk, junk, junk, junk, junk, junk, junk, junk, junk, junk, junk, junk, junk, junk, junk, junk, junk, junk, junk, junk, junk, junk, junk, junk, junk, junk, junk, junk, junk, junk, junk, junk, junk, junk, junk, junk, junk, junk, junk, junk, junk, junk, junk, junk, junk, junk, junk, junk, junk, junk, junk, junk, junk, junk, junk, junk, junk, junk, junk, junk, junk, junk, junk, junk, junk, junk, junk, junk, junk, junk, junk, junk, junk, junk, junk, junk, junk, junk, junk, junk, junk, junk, junk, junk, junk, junk, junk, junk, junk, junk, junk, junk, junk, junk, junk, junk, junk, junk, junk, junk, junk, junk, junk, junk, junk, junk, .bool x148, junk, junk, junk, junk, junk, junk, junk, junk, junk, junk, junk, junk, junk, junk, junk, junk, junk, junk, junk]
theorem XP4_61 : ∃ P : Rec → (Option Addr) → Nat → Nat → Int → Bool → AMem → Res, P = fun (L : Rec) (x13 : Option Addr) (x13n : Nat) (x13c : Nat) (x14 : Int) (x148 : Bool) (M : AMem) => code L c4_61 (k4_61 L) (s4_61 x13 x13n x13c x14 x148 M) M := ⟨_, rfl⟩
noncomputable def P4_61 : Rec → (Option Addr) → Nat → Nat → Int → Bool → AMem → Res := Classical.choose XP4_61
noncomputable def k4_67 (L : Rec) : KT := retK [.tmp 6]
def s4_67 (x13 : Option Addr) (x13n : Nat) (x13c : Nat) (M : AMem) : List Value := [junk, junk, junk, junk, junk, junk, junk, junk, junk, junk, junk, junk, junk, .slice x13 x13n x13c, junk, junk, junk, junk, junk, junk, junk, junk, junk, junk, junk, junk, junk, junk, junk, junk, junk, junk, junk, junk, junk, junk, junk, junk, junk, junk, junk, junk, junk, junk, junk, junk, junk, junk, junk, junk, junk, junk, junk, junk, junk, junk, junk, junk, junk, junk, junk, junk, junk, junk, junk, junk, junk, junk, junk, junk, junk, junk, junk, junk, junk, junk, junk, junk, junk, junk, junk, junk, junk, junk, junk, junk, junk, junk, junk, junk, junk, junk, junk, junk, junk, junk, junk, junk, junk, junk, junk, junk, junk, junk, junk, junk, junk, junk, junk, junk, junk, junk, junk, junk, junk, junk, junk, junk, junk, junk, junk, junk, junk, junk, junk, junk, junk, junk, junk, junk, junk, junk, junk, junk, junk, junk, junk, junk, junk, junk, junk, junk, junk, junk, junk, junk, junk, junk, junk, junk, junk, junk, junk, junk, junk, junk, junk, junk, junk, junk, junk, junk, junk, junk, junk, junk, junk, junk]
theorem XP4_67 : ∃ P : Rec → (Option Addr) → Nat → Nat → AMem → Res, P = fun (L : Rec) (x13 : Option Addr) (x13n : Nat) (x13c : Nat) (M : AMem) => code L c4_67 (k4_67 L) (s4_67 x13 x13n x13c M) M := ⟨_, rfl⟩
noncomputable def P4_67 : Rec → (Option Addr) → Nat → Nat → AMem → Res := Classical.choose XP4_67
noncomputable def k4_66 (L : Rec) : KT := postK [0, 1, 2, 3, 4, 5, 6, 7, 8, 9, 10, 11, 12, 15, 16, 17, 18, 19, 20, 21, 22, 23, 24, 25, 26, 27, 28, 29, 30, 31, 32, 33, 34, 35, 36, 37, 38, 39, 40, 41, 42, 43, 44, 45, 46, 47, 48, 49, 50, 51, 52, 53, 54, 55, 56, 57, 58, 59, 60, 61, 62, 63, 64, 65, 66, 67, 68, 69, 70, 71, 72, 73, 74, 75, 76, 77, 78, 79, 80, 81, 82, 83, 84, 85, 86, 87, 88, 89, 90, 91, 92, 93, 94, 95, 96, 97, 98, 99, 100, 101, 102, 103, 104, 105, 106, 107, 108, 109, 110, 111, 112, 113, 114, 115, 116, 117, 118, 119, 120, 121, 122, 123, 124, 125, 126, 127, 128, 129, 130, 131, 132, 133, 134, 135, 136, 137, 138, 139, 140, 141, 142, 143, 144, 145, 146, 147, 148, 149, 150, 151, 152, 153, 154, 155, 156, 157, 158, 159, 160, 161, 162, 163, 164, 165, 166, 167] (loopK L b4_50 (blockK 0 (seqK (code L (.clear [0, 1, 2, 3, 4, 5, 6, 7, 8, 9, 10, 11, 12, 14, 15, 16, 17, 18, 19, 20, 21, 22, 23, 24, 25, 26, 27, 28, 29, 30, 31, 32, 33, 34, 35, 36, 37, 38, 39, 40, 41, 42, 43, 44, 45, 46, 47, 48, 49, 50, 51, 52, 53, 54, 55, 56, 57, 58, 59, 60, 61, 62, 63, 64, 65, 66, 67, 68, 69, 70, 71, 72, 73, 74, 75, 76, 77, 78, 79, 80, 81, 82, 83, 84, 85, 86, 87, 88, 89, 90, 91, 92, 93, 94, 95, 96, 97, 98, 99, 100, 101, 102, 103, 104, 105, 106, 107, 108, 109, 110, 111, 112, 113, 114, 115, 116, 117, 118, 119, 120, 121, 122, 123, 124, 125, 126, 127, 128, 129, 130, 131, 132, 133, 134, 135, 136, 137, 138, 139, 140, 141, 142, 143, 144, 145, 146, 147, 148, 149, 150, 151, 152, 153, 154, 155, 156, 157, 158, 159, 160, 161, 162, 163, 164, 165, 166, 167] c4_67) (retK [.tmp 6])) (retK [.tmp 6]))))
def s4_66 (x13 : Option Addr) (x13n : Nat) (x13c : Nat) (x14 : Int) (M : AMem) : List Value := [junk, junk, junk, junk, junk, junk, junk, junk, junk, junk, junk, junk, junk, .slice x13 x13n x13c, .int .i64 x14, junk, junk, junk, junk, junk, junk, junk, junk, junk, junk, junk, junk, junk, junk, junk, junk, junk, junk, junk, junk, junk, junk, junk, junk, junk, junk, junk, junk, junk, junk, junk, junk, junk, junk, junk, junk, junk, junk, junk, junk, junk, junk, junk, junk, junk, junk, junk, junk, junk, junk, junk, junk, junk, junk, junk, junk, junk, junk, junk, junk, junk, junk, junk, junk, junk, junk, junk, junk, junk, junk, junk, junk, junk, junk, junk, junk, junk, junk, junk, junk, junk, junk, junk, junk, junk, junk, junk, junk, junk, junk, junk, junk, junk, junk, junk, junk, junk, junk, junk, junk, junk, junk, junk, junk, junk, junk, junk, junk, junk, junk, junk, junk, junk, junk, junk, junk, junk, junk, junk, junk, junk, junk, junk, junk, junk, junk, junk, junk, junk, junk, junk, junk, junk, junk, junk, junk, junk, junk, junk, junk, junk, junk, junk, junk, junk, junk, junk, junk, junk, junk, junk, junk, junk]
theorem XP4_66 : ∃ P : Rec → (Option Addr) → Nat → Nat → Int → AMem → Res, P = fun (L : Rec) (x13 : Option Addr) (x13n : Nat) (x13c : Nat) (x14 : Int) (M : AMem) => code L c4_66 (k4_66 L) (s4_66 x13 x13n x13c x14 M) M := ⟨_, rfl⟩
noncomputable def P4_66 : Rec → (Option Addr) → Nat → Nat → Int → AMem → Res := Classical.choose XP4_66
theorem QP4_18_eq (L : Rec) (c4_24 : ACode) (P4_18 : Rec → Bool → Nat → Int → Int → AMem → Res) (hP4_18 : P4_18 = fun (L : Rec) (x2 : Bool) (x3 : Nat) (x7 : Int) (x8 : Int) (M : AMem) => code L (.seq (.seq (.ops o4_20) (.cond (.tmp 34) (.ops o4_22) (.skip))) (.clear [0, 1, 2, 4, 5, 6, 9, 10, 11, 12, 13, 14, 15, 16, 17, 18, 19, 20, 21, 22, 23, 24, 25, 26, 27, 28, 29, 30, 31, 32, 33, 34, 35, 36, 37, 38, 39, 40, 41, 42, 43, 44, 45, 46, 47, 48, 49, 50, 51, 52, 53, 54, 55, 56, 57, 58, 59, 60, 61, 62, 63, 64, 65, 66, 67, 68, 69, 70, 71, 72, 73, 74, 75, 76, 77, 78, 79, 80, 81, 82, 83, 84, 85, 86, 87, 88, 89, 90, 91, 92, 93, 94, 95, 96, 97, 98, 99, 100, 101, 102, 103, 104, 105, 106, 107, 108, 109, 110, 111, 112, 113, 114, 115, 116, 117, 118, 119, 120, 121, 122, 123, 124, 125, 126, 127, 128, 129, 130, 131, 132, 133, 134, 135, 136, 137, 138, 139, 140, 141, 142, 143, 144, 145, 146, 147, 148, 149, 150, 151, 152, 153, 154, 155, 156, 157, 158, 159, 160, 161, 162, 163, 164, 165, 166, 167] c4_24)) (retK [.tmp 6]) (s4_18 x2 x3 x7 x8 M) M) (P4_24 : Rec → Nat → Int → Int → AMem → Res) (hP4_24 : P4_24 = fun (L : Rec) (x3 : Nat) (x7 : Int) (x8 : Int) (M : AMem) => code L c4_24 (retK [.tmp 6]) (s4_24 x3 x7 x8 M) M) (x2 : Bool) (x3 : Nat) (x7 : Int) (x8 : Int) (M : AMem) : P4_18 L x2 x3 x7 x8 M =
  (if x2 = true
    then P4_24 L x3 x7 (IntKind.wrap .i64 (x8 - 1)) M
    else P4_24 L x3 x7 x8 M) := by
  subst hP4_18; subst hP4_24; kernel_rfl
theorem P4_18_eq (L : Rec) (x2 : Bool) (x3 : Nat) (x7 : Int) (x8 : Int) (M : AMem) : P4_18 L x2 x3 x7 x8 M =
  (if x2 = true
    then P4_24 L x3 x7 (IntKind.wrap .i64 (x8 - 1)) M
    else P4_24 L x3 x7 x8 M) := QP4_18_eq L c4_24 P4_18 (Classical.choose_spec XP4_18) P4_24 (Classical.choose_spec XP4_24) x2 x3 x7 x8 M
theorem QP4_24_eq (L : Rec) (b4_50 c4_31 c4_67 : ACode) (P4_24 : Rec → Nat → Int → Int → AMem → Res) (hP4_24 : P4_24 = fun (L : Rec) (x3 : Nat) (x7 : Int) (x8 : Int) (M : AMem) => code L (.seq (.ops o4_25) (.seq (.ops o4_27) (.seq (.seq (.draw [] 0 o4_30 [(21, 19), (21, 20)]) (.clear [0, 1, 2, 4, 5, 6, 7, 8, 9, 10, 11, 12, 13, 14, 15, 16, 17, 18, 19, 20, 21, 22, 23, 24, 25, 26, 27, 28, 29, 30, 31, 32, 33, 34, 35, 36, 37, 38, 39, 40, 41, 42, 43, 44, 45, 46, 47, 48, 49, 50, 51, 52, 53, 54, 55, 56, 57, 58, 59, 60, 61, 62, 63, 64, 65, 66, 67, 68, 69, 70, 71, 72, 73, 74, 75, 76, 77, 79, 80, 81, 82, 83, 84, 85, 86, 87, 88, 89, 90, 91, 92, 93, 94, 95, 96, 97, 98, 99, 100, 101, 102, 103, 104, 105, 106, 107, 108, 109, 110, 111, 112, 113, 114, 115, 116, 117, 118, 119, 120, 121, 122, 123, 124, 125, 126, 127, 128, 129, 130, 131, 132, 133, 134, 135, 136, 137, 138, 139, 140, 141, 142, 143, 144, 145, 146, 147, 148, 149, 150, 151, 152, 153, 154, 155, 156, 157, 158, 159, 160, 161, 162, 163, 164, 165, 166, 167] c4_31)) (.seq (.ops o4_37) (.seq (.seq (.draw [] 0 o4_40 [(18, 17)]) (.cond (.tmp 103) (.seq (.ops o4_43) (.ret)) (.skip))) (.seq (.seq (.ops o4_48) (.block 0 (.clear [0, 1, 2, 3, 4, 5, 6, 7, 8, 9, 10, 11, 12, 15, 16, 17, 18, 19, 20, 21, 22, 23, 24, 25, 26, 27, 28, 29, 30, 31, 32, 33, 34, 35, 36, 37, 38, 39, 40, 41, 42, 43, 44, 45, 46, 47, 48, 49, 50, 51, 52, 53, 54, 55, 56, 57, 58, 59, 60, 61, 62, 63, 64, 65, 66, 67, 68, 69, 70, 71, 72, 73, 74, 75, 76, 77, 78, 79, 80, 81, 82, 83, 84, 85, 86, 87, 88, 89, 90, 91, 92, 93, 94, 95, 96, 97, 98, 99, 100, 101, 102, 103, 104, 105, 106, 107, 108, 109, 110, 111, 112, 113, 114, 115, 116, 117, 118, 119, 120, 121, 122, 123, 124, 125, 126, 127, 128, 129, 130, 131, 132, 133, 134, 135, 136, 137, 138, 139, 140, 141, 142, 143, 144, 145, 146, 147, 148, 149, 150, 151, 152, 153, 154, 155, 156, 157, 158, 159, 160, 161, 162, 163, 164, 165, 166, 167] (.loop b4_50)))) (.clear [0, 1, 2, 3, 4, 5, 6, 7, 8, 9, 10, 11, 12, 14, 15, 16, 17, 18, 19, 20, 21, 22, 23, 24, 25, 26, 27, 28, 29, 30, 31, 32, 33, 34, 35, 36, 37, 38, 39, 40, 41, 42, 43, 44, 45, 46, 47, 48, 49, 50, 51, 52, 53, 54, 55, 56, 57, 58, 59, 60, 61, 62, 63, 64, 65, 66, 67, 68, 69, 70, 71, 72, 73, 74, 75, 76, 77, 78, 79, 80, 81, 82, 83, 84, 85, 86, 87, 88, 89, 90, 91, 92, 93, 94, 95, 96, 97, 98, 99, 100, 101, 102, 103, 104, 105, 106, 107, 108, 109, 110, 111, 112, 113, 114, 115, 116, 117, 118, 119, 120, 121, 122, 123, 124, 125, 126, 127, 128, 129, 130, 131, 132, 133, 134, 135, 136, 137, 138, 139, 140, 141, 142, 143, 144, 145, 146, 147, 148, 149, 150, 151, 152, 153, 154, 155, 156, 157, 158, 159, 160, 161, 162, 163, 164, 165, 166, 167] c4_67))))))) (retK [.tmp 6]) (s4_24 x3 x7 x8 M) M) (P4_31 : Rec → Nat → Bool → AMem → Res) (hP4_31 : P4_31 = fun (L : Rec) (x3 : Nat) (x78 : Bool) (M : AMem) => code L c4_31 (seqK (code L (.seq (.ops o4_37) (.seq (.seq (.draw [] 0 o4_40 [(18, 17)]) (.cond (.tmp 103) (.seq (.ops o4_43) (.ret)) (.skip))) (.seq (.seq (.ops o4_48) (.block 0 (.clear [0, 1, 2, 3, 4, 5, 6, 7, 8, 9, 10, 11, 12, 15, 16, 17, 18, 19, 20, 21, 22, 23, 24, 25, 26, 27, 28, 29, 30, 31, 32, 33, 34, 35, 36, 37, 38, 39, 40, 41, 42, 43, 44, 45, 46, 47, 48, 49, 50, 51, 52, 53, 54, 55, 56, 57, 58, 59, 60, 61, 62, 63, 64, 65, 66, 67, 68, 69, 70, 71, 72, 73, 74, 75, 76, 77, 78, 79, 80, 81, 82, 83, 84, 85, 86, 87, 88, 89, 90, 91, 92, 93, 94, 95, 96, 97, 98, 99, 100, 101, 102, 103, 104, 105, 106, 107, 108, 109, 110, 111, 112, 113, 114, 115, 116, 117, 118, 119, 120, 121, 122, 123, 124, 125, 126, 127, 128, 129, 130, 131, 132, 133, 134, 135, 136, 137, 138, 139, 140, 141, 142, 143, 144, 145, 146, 147, 148, 149, 150, 151, 152, 153, 154, 155, 156, 157, 158, 159, 160, 161, 162, 163, 164, 165, 166, 167] (.loop b4_50)))) (.clear [0, 1, 2, 3, 4, 5, 6, 7, 8, 9, 10, 11, 12, 14, 15, 16, 17, 18, 19, 20, 21, 22, 23, 24, 25, 26, 27, 28, 29, 30, 31, 32, 33, 34, 35, 36, 37, 38, 39, 40, 41, 42, 43, 44, 45, 46, 47, 48, 49, 50, 51, 52, 53, 54, 55, 56, 57, 58, 59, 60, 61, 62, 63, 64, 65, 66, 67, 68, 69, 70, 71, 72, 73, 74, 75, 76, 77, 78, 79, 80, 81, 82, 83, 84, 85, 86, 87, 88, 89, 90, 91, 92, 93, 94, 95, 96, 97, 98, 99, 100, 101, 102, 103, 104, 105, 106, 107, 108, 109, 110, 111, 112, 113, 114, 115, 116, 117, 118, 119, 120, 121, 122, 123, 124, 125, 126, 127, 128, 129, 130, 131, 132, 133, 134, 135, 136, 137, 138, 139, 140, 141, 142, 143, 144, 145, 146, 147, 148, 149, 150, 151, 152, 153, 154, 155, 156, 157, 158, 159, 160, 161, 162, 163, 164, 165, 166, 167] c4_67)))) (retK [.tmp 6])) (retK [.tmp 6])) (s4_31 x3 x78 M) M) (x3 : Nat) (x7 : Int) (x8 : Int) (M : AMem) : P4_24 L x3 x7 x8 M =
  (Option.bind (intOf? .i64 (AMem.ld M x3 0)) fun x_1 =>
    (Option.bind (intOf? .i64 (AMem.ld M x3 1)) fun x_2 =>
    (Option.bind (sliceOf? (AMem.ld M x3 2)) fun s_3 =>
    (Option.bind (L.call 9 [.agg #[.int .i64 x_1, .int .i64 x_2, .slice s_3.1 s_3.2.1 s_3.2.2]] M) fun r_4 =>
    (Option.bind (aggOf? 3 r_4.1) fun cs_5 =>
    (Option.bind (intOf? .i64 (cs_5[0]?)) fun x_6 =>
    (Option.bind (intOf? .i64 (cs_5[1]?)) fun x_7 =>
    (Option.bind (sliceOf? (cs_5[2]?)) fun s_8 =>
    (Option.bind (L.call 11 [.agg #[.int .i64 x_6, .int .i64 x_7, .slice s_8.1 s_8.2.1 s_8.2.2], .int .i64 x7, .int .i64 x8] r_4.2) fun r_9 =>
    (Option.bind (tupOf? 2 r_9.1) fun cs_10 =>
    (Option.bind (cs_10[0]?) fun u_11 =>
    (Option.bind (aggOf? 3 u_11) fun cs_12 =>
    (Option.bind (intOf? .i64 (cs_12[0]?)) fun x_13 =>
    (Option.bind (intOf? .i64 (cs_12[1]?)) fun x_14 =>
    (Option.bind (sliceOf? (cs_12[2]?)) fun s_15 =>
    (Option.bind (cs_10[1]?) fun u_16 =>
    (Option.bind (boolOf? (some u_16)) fun q_17 =>
    (Option.bind (AMem.wr (r_9.2 ++ [AObj.cells [.int .i64 0, .int .i64 0, .slice none 0 0] ⟨false, 0⟩]) (List.length r_9.2) 0 [.int .i64 x_13, .int .i64 x_14, .slice s_15.1 s_15.2.1 s_15.2.2]) fun M_18 =>
    (Option.bind (intOf? .i64 (AMem.ld M_18 x3 0)) fun x_19 =>
    (Option.bind (intOf? .i64 (AMem.ld M_18 x3 1)) fun x_20 =>
    (Option.bind (sliceOf? (AMem.ld M_18 x3 2)) fun s_21 =>
    (Option.bind (L.call 9 [.agg #[.int .i64 x_19, .int .i64 x_20, .slice s_21.1 s_21.2.1 s_21.2.2]] M_18) fun r_22 =>
    (Option.bind (aggOf? 3 r_22.1) fun cs_23 =>
    (Option.bind (intOf? .i64 (cs_23[0]?)) fun x_24 =>
    (Option.bind (intOf? .i64 (cs_23[1]?)) fun x_25 =>
    (Option.bind (sliceOf? (cs_23[2]?)) fun s_26 =>
    (Option.bind (L.call 11 [.agg #[.int .i64 x_24, .int .i64 x_25, .slice s_26.1 s_26.2.1 s_26.2.2], .int .i64 (IntKind.wrap .i64 (x7 + 2)), .int .i64 x8] r_22.2) fun r_27 =>
    (Option.bind (tupOf? 2 r_27.1) fun cs_28 =>
    (Option.bind (cs_28[0]?) fun u_29 =>
    (Option.bind (aggOf? 3 u_29) fun cs_30 =>
    (Option.bind (intOf? .i64 (cs_30[0]?)) fun x_31 =>
    (Option.bind (intOf? .i64 (cs_30[1]?)) fun x_32 =>
    (Option.bind (sliceOf? (cs_30[2]?)) fun s_33 =>
    (Option.bind (cs_28[1]?) fun u_34 =>
    (Option.bind (boolOf? (some u_34)) fun q_35 =>
    (Option.bind (AMem.wr (r_27.2 ++ [AObj.cells [.int .i64 0, .int .i64 0, .slice none 0 0] ⟨false, 0⟩]) (List.length r_27.2) 0 [.int .i64 x_31, .int .i64 x_32, .slice s_33.1 s_33.2.1 s_33.2.2]) fun M_36 =>
    (if (!q_17) = true
    then (if chkOk [(21, 19), (21, 20)] [(21, x3)] [(20, (M_36, M_36)), (19, (M_36, M_36))] = true
      then P4_31 L x3 true M_36
      else none)
    else (if q_35 = true
      then (if chkOk [(21, 19), (21, 20)] [(21, x3)] [(20, (M_36, M_36)), (19, (M_36, M_36))] = true
        then P4_31 L x3 true M_36
        else none)
      else (Option.bind (intOf? .i64 (AMem.ld M_36 (List.length r_9.2) 0)) fun x_37 =>
        (if (x_37 != x7) = true
        then (if chkOk [(21, 19), (21, 20)] [(21, x3)] [(20, (M_36, M_36)), (19, (M_36, M_36))] = true
          then P4_31 L x3 true M_36
          else none)
        else (Option.bind (intOf? .i64 (AMem.ld M_36 (List.length r_9.2) 1)) fun x_38 =>
          (if (x_38 != x8) = true
          then (if chkOk [(21, 19), (21, 20)] [(21, x3)] [(20, (M_36, M_36)), (19, (M_36, M_36))] = true
            then P4_31 L x3 true M_36
            else none)
          else (Option.bind (intOf? .i64 (AMem.ld M_36 (List.length r_9.2) 0)) fun x_39 =>
            (Option.bind (intOf? .i64 (AMem.ld M_36 (List.length r_9.2) 1)) fun x_40 =>
            (Option.bind (sliceOf? (AMem.ld M_36 (List.length r_9.2) 2)) fun s_41 =>
            (Option.bind (L.call 8 [.agg #[.int .i64 x_39, .int .i64 x_40, .slice s_41.1 s_41.2.1 s_41.2.2]] M_36) fun r_42 =>
            (Option.bind (aggOf? 3 r_42.1) fun cs_43 =>
            (Option.bind (intOf? .i64 (cs_43[0]?)) fun x_44 =>
            (Option.bind (intOf? .i64 (cs_43[1]?)) fun x_45 =>
            (Option.bind (sliceOf? (cs_43[2]?)) fun s_46 =>
            (Option.bind (L.call 13 [.agg #[.int .i64 x_44, .int .i64 x_45, .slice s_46.1 s_46.2.1 s_46.2.2]] r_42.2) fun r_47 =>
            (Option.bind (aggOf? 3 r_47.1) fun cs_48 =>
            (Option.bind (intOf? .i64 (cs_48[0]?)) fun x_49 =>
            (Option.bind (intOf? .i64 (cs_48[1]?)) fun x_50 =>
            (Option.bind (sliceOf? (cs_48[2]?)) fun s_51 =>
            (Option.bind (intOf? .i64 (AMem.ld r_47.2 x3 0)) fun x_52 =>
            (Option.bind (intOf? .i64 (AMem.ld r_47.2 x3 1)) fun x_53 =>
            (Option.bind (sliceOf? (AMem.ld r_47.2 x3 2)) fun s_54 =>
            (Option.bind (L.call 12 [.agg #[.int .i64 x_49, .int .i64 x_50, .slice s_51.1 s_51.2.1 s_51.2.2], .agg #[.int .i64 x_52, .int .i64 x_53, .slice s_54.1 s_54.2.1 s_54.2.2]] r_47.2) fun r_55 =>
            (Option.bind (boolOf? (some r_55.1)) fun q_56 =>
            (if chkOk [(21, 19), (21, 20)] [(21, x3)] [(20, (r_42.2, r_47.2)), (19, (M_36, r_42.2))] = true
            then P4_31 L x3 (!q_56) r_55.2
            else none))))))))))))))))))))))))))))))))))))))))))))))))))))))))))))) := by
  subst hP4_24; subst hP4_31; kernel_rfl
theorem P4_24_eq (L : Rec) (x3 : Nat) (x7 : Int) (x8 : Int) (M : AMem) : P4_24 L x3 x7 x8 M =
  (Option.bind (intOf? .i64 (AMem.ld M x3 0)) fun x_1 =>
    (Option.bind (intOf? .i64 (AMem.ld M x3 1)) fun x_2 =>
    (Option.bind (sliceOf? (AMem.ld M x3 2)) fun s_3 =>
    (Option.bind (L.call 9 [.agg #[.int .i64 x_1, .int .i64 x_2, .slice s_3.1 s_3.2.1 s_3.2.2]] M) fun r_4 =>
    (Option.bind (aggOf? 3 r_4.1) fun cs_5 =>
    (Option.bind (intOf? .i64 (cs_5[0]?)) fun x_6 =>
    (Option.bind (intOf? .i64 (cs_5[1]?)) fun x_7 =>
    (Option.bind (sliceOf? (cs_5[2]?)) fun s_8 =>
    (Option.bind (L.call 11 [.agg #[.int .i64 x_6, .int .i64 x_7, .slice s_8.1 s_8.2.1 s_8.2.2], .int .i64 x7, .int .i64 x8] r_4.2) fun r_9 =>
    (Option.bind (tupOf? 2 r_9.1) fun cs_10 =>
    (Option.bind (cs_10[0]?) fun u_11 =>
    (Option.bind (aggOf? 3 u_11) fun cs_12 =>
    (Option.bind (intOf? .i64 (cs_12[0]?)) fun x_13 =>
    (Option.bind (intOf? .i64 (cs_12[1]?)) fun x_14 =>
    (Option.bind (sliceOf? (cs_12[2]?)) fun s_15 =>
    (Option.bind (cs_10[1]?) fun u_16 =>
    (Option.bind (boolOf? (some u_16)) fun q_17 =>
    (Option.bind (AMem.wr (r_9.2 ++ [AObj.cells [.int .i64 0, .int .i64 0, .slice none 0 0] ⟨false, 0⟩]) (List.length r_9.2) 0 [.int .i64 x_13, .int .i64 x_14, .slice s_15.1 s_15.2.1 s_15.2.2]) fun M_18 =>
    (Option.bind (intOf? .i64 (AMem.ld M_18 x3 0)) fun x_19 =>
    (Option.bind (intOf? .i64 (AMem.ld M_18 x3 1)) fun x_20 =>
    (Option.bind (sliceOf? (AMem.ld M_18 x3 2)) fun s_21 =>
    (Option.bind (L.call 9 [.agg #[.int .i64 x_19, .int .i64 x_20, .slice s_21.1 s_21.2.1 s_21.2.2]] M_18) fun r_22 =>
    (Option.bind (aggOf? 3 r_22.1) fun cs_23 =>
    (Option.bind (intOf? .i64 (cs_23[0]?)) fun x_24 =>
    (Option.bind (intOf? .i64 (cs_23[1]?)) fun x_25 =>
    (Option.bind (sliceOf? (cs_23[2]?)) fun s_26 =>
    (Option.bind (L.call 11 [.agg #[.int .i64 x_24, .int .i64 x_25, .slice s_26.1 s_26.2.1 s_26.2.2], .int .i64 (IntKind.wrap .i64 (x7 + 2)), .int .i64 x8] r_22.2) fun r_27 =>
    (Option.bind (tupOf? 2 r_27.1) fun cs_28 =>
    (Option.bind (cs_28[0]?) fun u_29 =>
    (Option.bind (aggOf? 3 u_29) fun cs_30 =>
    (Option.bind (intOf? .i64 (cs_30[0]?)) fun x_31 =>
    (Option.bind (intOf? .i64 (cs_30[1]?)) fun x_32 =>
    (Option.bind (sliceOf? (cs_30[2]?)) fun s_33 =>
    (Option.bind (cs_28[1]?) fun u_34 =>
    (Option.bind (boolOf? (some u_34)) fun q_35 =>
    (Option.bind (AMem.wr (r_27.2 ++ [AObj.cells [.int .i64 0, .int .i64 0, .slice none 0 0] ⟨false, 0⟩]) (List.length r_27.2) 0 [.int .i64 x_31, .int .i64 x_32, .slice s_33.1 s_33.2.1 s_33.2.2]) fun M_36 =>
    (if (!q_17) = true
    then (if chkOk [(21, 19), (21, 20)] [(21, x3)] [(20, (M_36, M_36)), (19, (M_36, M_36))] = true
      then P4_31 L x3 true M_36
      else none)
    else (if q_35 = true
      then (if chkOk [(21, 19), (21, 20)] [(21, x3)] [(20, (M_36, M_36)), (19, (M_36, M_36))] = true
        then P4_31 L x3 true M_36
        else none)
      else (Option.bind (intOf? .i64 (AMem.ld M_36 (List.length r_9.2) 0)) fun x_37 =>
        (if (x_37 != x7) = true
        then (if chkOk [(21, 19), (21, 20)] [(21, x3)] [(20, (M_36, M_36)), (19, (M_36, M_36))] = true
          then P4_31 L x3 true M_36
          else none)
        else (Option.bind (intOf? .i64 (AMem.ld M_36 (List.length r_9.2) 1)) fun x_38 =>
          (if (x_38 != x8) = true
          then (if chkOk [(21, 19), (21, 20)] [(21, x3)] [(20, (M_36, M_36)), (19, (M_36, M_36))] = true
            then P4_31 L x3 true M_36
            else none)
          else (Option.bind (intOf? .i64 (AMem.ld M_36 (List.length r_9.2) 0)) fun x_39 =>
            (Option.bind (intOf? .i64 (AMem.ld M_36 (List.length r_9.2) 1)) fun x_40 =>
            (Option.bind (sliceOf? (AMem.ld M_36 (List.length r_9.2) 2)) fun s_41 =>
            (Option.bind (L.call 8 [.agg #[.int .i64 x_39, .int .i64 x_40, .slice s_41.1 s_41.2.1 s_41.2.2]] M_36) fun r_42 =>
            (Option.bind (aggOf? 3 r_42.1) fun cs_43 =>
            (Option.bind (intOf? .i64 (cs_43[0]?)) fun x_44 =>
            (Option.bind (intOf? .i64 (cs_43[1]?)) fun x_45 =>
            (Option.bind (sliceOf? (cs_43[2]?)) fun s_46 =>
            (Option.bind (L.call 13 [.agg #[.int .i64 x_44, .int .i64 x_45, .slice s_46.1 s_46.2.1 s_46.2.2]] r_42.2) fun r_47 =>
            (Option.bind (aggOf? 3 r_47.1) fun cs_48 =>
            (Option.bind (intOf? .i64 (cs_48[0]?)) fun x_49 =>
            (Option.bind (intOf? .i64 (cs_48[1]?)) fun x_50 =>
            (Option.bind (sliceOf? (cs_48[2]?)) fun s_51 =>
            (Option.bind (intOf? .i64 (AMem.ld r_47.2 x3 0)) fun x_52 =>
            (Option.bind (intOf? .i64 (AMem.ld r_47.2 x3 1)) fun x_53 =>
            (Option.bind (sliceOf? (AMem.ld r_47.2 x3 2)) fun s_54 =>
            (Option.bind (L.call 12 [.agg #[.int .i64 x_49, .int .i64 x_50, .slice s_51.1 s_51.2.1 s_51.2.2], .agg #[.int .i64 x_52, .int .i64 x_53, .slice s_54.1 s_54.2.1 s_54.2.2]] r_47.2) fun r_55 =>
            (Option.bind (boolOf? (some r_55.1)) fun q_56 =>
            (if chkOk [(21, 19), (21, 20)] [(21, x3)] [(20, (r_42.2, r_47.2)), (19, (M_36, r_42.2))] = true
            then P4_31 L x3 (!q_56) r_55.2
            else none))))))))))))))))))))))))))))))))))))))))))))))))))))))))))))) := QP4_24_eq L b4_50 c4_31 c4_67 P4_24 (Classical.choose_spec XP4_24) P4_31 (Classical.choose_spec XP4_31) x3 x7 x8 M
theorem QP4_31_eq (L : Rec) (b4_50 c4_67 : ACode) (P4_31 : Rec → Nat → Bool → AMem → Res) (hP4_31 : P4_31 = fun (L : Rec) (x3 : Nat) (x78 : Bool) (M : AMem) => code L (.cond (.tmp 78) (.seq (.ops o4_33) (.ret)) (.skip)) (seqK (code L (.seq (.ops o4_37) (.seq (.seq (.draw [] 0 o4_40 [(18, 17)]) (.cond (.tmp 103) (.seq (.ops o4_43) (.ret)) (.skip))) (.seq (.seq (.ops o4_48) (.block 0 (.clear [0, 1, 2, 3, 4, 5, 6, 7, 8, 9, 10, 11, 12, 15, 16, 17, 18, 19, 20, 21, 22, 23, 24, 25, 26, 27, 28, 29, 30, 31, 32, 33, 34, 35, 36, 37, 38, 39, 40, 41, 42, 43, 44, 45, 46, 47, 48, 49, 50, 51, 52, 53, 54, 55, 56, 57, 58, 59, 60, 61, 62, 63, 64, 65, 66, 67, 68, 69, 70, 71, 72, 73, 74, 75, 76, 77, 78, 79, 80, 81, 82, 83, 84, 85, 86, 87, 88, 89, 90, 91, 92, 93, 94, 95, 96, 97, 98, 99, 100, 101, 102, 103, 104, 105, 106, 107, 108, 109, 110, 111, 112, 113, 114, 115, 116, 117, 118, 119, 120, 121, 122, 123, 124, 125, 126, 127, 128, 129, 130, 131, 132, 133, 134, 135, 136, 137, 138, 139, 140, 141, 142, 143, 144, 145, 146, 147, 148, 149, 150, 151, 152, 153, 154, 155, 156, 157, 158, 159, 160, 161, 162, 163, 164, 165, 166, 167] (.loop b4_50)))) (.clear [0, 1, 2, 3, 4, 5, 6, 7, 8, 9, 10, 11, 12, 14, 15, 16, 17, 18, 19, 20, 21, 22, 23, 24, 25, 26, 27, 28, 29, 30, 31, 32, 33, 34, 35, 36, 37, 38, 39, 40, 41, 42, 43, 44, 45, 46, 47, 48, 49, 50, 51, 52, 53, 54, 55, 56, 57, 58, 59, 60, 61, 62, 63, 64, 65, 66, 67, 68, 69, 70, 71, 72, 73, 74, 75, 76, 77, 78, 79, 80, 81, 82, 83, 84, 85, 86, 87, 88, 89, 90, 91, 92, 93, 94, 95, 96, 97, 98, 99, 100, 101, 102, 103, 104, 105, 106, 107, 108, 109, 110, 111, 112, 113, 114, 115, 116, 117, 118, 119, 120, 121, 122, 123, 124, 125, 126, 127, 128, 129, 130, 131, 132, 133, 134, 135, 136, 137, 138, 139, 140, 141, 142, 143, 144, 145, 146, 147, 148, 149, 150, 151, 152, 153, 154, 155, 156, 157, 158, 159, 160, 161, 162, 163, 164, 165, 166, 167] c4_67)))) (retK [.tmp 6])) (retK [.tmp 6])) (s4_31 x3 x78 M) M) (P4_50 : Rec → (Option Addr) → Nat → Nat → Int → AMem → Res) (hP4_50 : P4_50 = fun (L : Rec) (x13 : Option Addr) (x13n : Nat) (x13c : Nat) (x14 : Int) (M : AMem) => L.loop b4_50 (blockK 0 (seqK (code L (.clear [0, 1, 2, 3, 4, 5, 6, 7, 8, 9, 10, 11, 12, 14, 15, 16, 17, 18, 19, 20, 21, 22, 23, 24, 25, 26, 27, 28, 29, 30, 31, 32, 33, 34, 35, 36, 37, 38, 39, 40, 41, 42, 43, 44, 45, 46, 47, 48, 49, 50, 51, 52, 53, 54, 55, 56, 57, 58, 59, 60, 61, 62, 63, 64, 65, 66, 67, 68, 69, 70, 71, 72, 73, 74, 75, 76, 77, 78, 79, 80, 81, 82, 83, 84, 85, 86, 87, 88, 89, 90, 91, 92, 93, 94, 95, 96, 97, 98, 99, 100, 101, 102, 103, 104, 105, 106, 107, 108, 109, 110, 111, 112, 113, 114, 115, 116, 117, 118, 119, 120, 121, 122, 123, 124, 125, 126, 127, 128, 129, 130, 131, 132, 133, 134, 135, 136, 137, 138, 139, 140, 141, 142, 143, 144, 145, 146, 147, 148, 149, 150, 151, 152, 153, 154, 155, 156, 157, 158, 159, 160, 161, 162, 163, 164, 165, 166, 167] c4_67) (retK [.tmp 6])) (retK [.tmp 6]))) (s4_50 x13 x13n x13c x14 M) M) (x3 : Nat) (x78 : Bool) (M : AMem) : P4_31 L x3 x78 M =
  (if x78 = true
    then some (.bool false, M)
    else (Option.bind (intOf? .i64 (AMem.ld M x3 0)) fun x_1 =>
      (Option.bind (intOf? .i64 (AMem.ld M x3 1)) fun x_2 =>
      (Option.bind (sliceOf? (AMem.ld M x3 2)) fun s_3 =>
      (Option.bind (L.call 9 [.agg #[.int .i64 x_1, .int .i64 x_2, .slice s_3.1 s_3.2.1 s_3.2.2]] M) fun r_4 =>
      (Option.bind (aggOf? 3 r_4.1) fun cs_5 =>
      (Option.bind (intOf? .i64 (cs_5[0]?)) fun x_6 =>
      (Option.bind (intOf? .i64 (cs_5[1]?)) fun x_7 =>
      (Option.bind (sliceOf? (cs_5[2]?)) fun s_8 =>
      (Option.bind (L.call 14 [.agg #[.int .i64 x_6, .int .i64 x_7, .slice s_8.1 s_8.2.1 s_8.2.2]] r_4.2) fun r_9 =>
      (Option.bind (sliceOf? (some r_9.1)) fun s_10 =>
      (if ((Int.ofNat s_10.2.1) == 0) = true
      then (if chkOk [(18, 17)] [(18, x3)] [(17, (r_9.2, r_9.2))] = true
        then some (.bool false, r_9.2)
        else none)
      else (Option.bind (intOf? .i64 (AMem.ld r_9.2 x3 0)) fun x_11 =>
        (Option.bind (intOf? .i64 (AMem.ld r_9.2 x3 1)) fun x_12 =>
        (Option.bind (L.call 15 [.int .i64 x_11, .int .i64 x_12] []) fun r_13 =>
        (Option.bind (intOf? .i64 (some r_13.1)) fun x_14 =>
        (if ((Int.ofNat s_10.2.1) != x_14) = true
        then (if chkOk [(18, 17)] [(18, x3)] [(17, (r_9.2, r_9.2))] = true
          then some (.bool false, r_9.2)
          else none)
        else (match s_10.1 with
          | some a_15 => (if (0 : Int) ≤ 0 ∧ 0 < (Int.ofNat s_10.2.1)
            then (Option.bind (intOf? .i64 (AMem.ld r_9.2 a_15.block a_15.off)) fun x_16 =>
              (Option.bind (intOf? .i64 (AMem.ld r_9.2 a_15.block (a_15.off + 1))) fun x_17 =>
              (Option.bind (sliceOf? (AMem.ld r_9.2 a_15.block (a_15.off + 2))) fun s_18 =>
              (Option.bind (L.call 13 [.agg #[.int .i64 x_16, .int .i64 x_17, .slice s_18.1 s_18.2.1 s_18.2.2]] r_9.2) fun r_19 =>
              (Option.bind (aggOf? 3 r_19.1) fun cs_20 =>
              (Option.bind (intOf? .i64 (cs_20[0]?)) fun x_21 =>
              (Option.bind (intOf? .i64 (cs_20[1]?)) fun x_22 =>
              (Option.bind (sliceOf? (cs_20[2]?)) fun s_23 =>
              (Option.bind (intOf? .i64 (AMem.ld r_19.2 x3 0)) fun x_24 =>
              (Option.bind (intOf? .i64 (AMem.ld r_19.2 x3 1)) fun x_25 =>
              (Option.bind (sliceOf? (AMem.ld r_19.2 x3 2)) fun s_26 =>
              (Option.bind (L.call 12 [.agg #[.int .i64 x_21, .int .i64 x_22, .slice s_23.1 s_23.2.1 s_23.2.2], .agg #[.int .i64 x_24, .int .i64 x_25, .slice s_26.1 s_26.2.1 s_26.2.2]] r_19.2) fun r_27 =>
              (Option.bind (boolOf? (some r_27.1)) fun q_28 =>
              (if chkOk [(18, 17)] [(18, x3)] [(17, (r_9.2, r_19.2))] = true
              then (if (!q_28) = true
                then some (.bool false, r_27.2)
                else P4_50 L s_10.1 s_10.2.1 s_10.2.2 1 r_27.2)
              else none))))))))))))))
            else none)
          | none => none)))))))))))))))))) := by
  subst hP4_31; subst hP4_50; kernel_rfl
theorem P4_31_eq (L : Rec) (x3 : Nat) (x78 : Bool) (M : AMem) : P4_31 L x3 x78 M =
  (if x78 = true
    then some (.bool false, M)
    else (Option.bind (intOf? .i64 (AMem.ld M x3 0)) fun x_1 =>
      (Option.bind (intOf? .i64 (AMem.ld M x3 1)) fun x_2 =>
      (Option.bind (sliceOf? (AMem.ld M x3 2)) fun s_3 =>
      (Option.bind (L.call 9 [.agg #[.int .i64 x_1, .int .i64 x_2, .slice s_3.1 s_3.2.1 s_3.2.2]] M) fun r_4 =>
      (Option.bind (aggOf? 3 r_4.1) fun cs_5 =>
      (Option.bind (intOf? .i64 (cs_5[0]?)) fun x_6 =>
      (Option.bind (intOf? .i64 (cs_5[1]?)) fun x_7 =>
      (Option.bind (sliceOf? (cs_5[2]?)) fun s_8 =>
      (Option.bind (L.call 14 [.agg #[.int .i64 x_6, .int .i64 x_7, .slice s_8.1 s_8.2.1 s_8.2.2]] r_4.2) fun r_9 =>
      (Option.bind (sliceOf? (some r_9.1)) fun s_10 =>
      (if ((Int.ofNat s_10.2.1) == 0) = true
      then (if chkOk [(18, 17)] [(18, x3)] [(17, (r_9.2, r_9.2))] = true
        then some (.bool false, r_9.2)
        else none)
      else (Option.bind (intOf? .i64 (AMem.ld r_9.2 x3 0)) fun x_11 =>
        (Option.bind (intOf? .i64 (AMem.ld r_9.2 x3 1)) fun x_12 =>
        (Option.bind (L.call 15 [.int .i64 x_11, .int .i64 x_12] []) fun r_13 =>
        (Option.bind (intOf? .i64 (some r_13.1)) fun x_14 =>
        (if ((Int.ofNat s_10.2.1) != x_14) = true
        then (if chkOk [(18, 17)] [(18, x3)] [(17, (r_9.2, r_9.2))] = true
          then some (.bool false, r_9.2)
          else none)
        else (match s_10.1 with
          | some a_15 => (if (0 : Int) ≤ 0 ∧ 0 < (Int.ofNat s_10.2.1)
            then (Option.bind (intOf? .i64 (AMem.ld r_9.2 a_15.block a_15.off)) fun x_16 =>
              (Option.bind (intOf? .i64 (AMem.ld r_9.2 a_15.block (a_15.off + 1))) fun x_17 =>
              (Option.bind (sliceOf? (AMem.ld r_9.2 a_15.block (a_15.off + 2))) fun s_18 =>
              (Option.bind (L.call 13 [.agg #[.int .i64 x_16, .int .i64 x_17, .slice s_18.1 s_18.2.1 s_18.2.2]] r_9.2) fun r_19 =>
              (Option.bind (aggOf? 3 r_19.1) fun cs_20 =>
              (Option.bind (intOf? .i64 (cs_20[0]?)) fun x_21 =>
              (Option.bind (intOf? .i64 (cs_20[1]?)) fun x_22 =>
              (Option.bind (sliceOf? (cs_20[2]?)) fun s_23 =>
              (Option.bind (intOf? .i64 (AMem.ld r_19.2 x3 0)) fun x_24 =>
              (Option.bind (intOf? .i64 (AMem.ld r_19.2 x3 1)) fun x_25 =>
              (Option.bind (sliceOf? (AMem.ld r_19.2 x3 2)) fun s_26 =>
              (Option.bind (L.call 12 [.agg #[.int .i64 x_21, .int .i64 x_22, .slice s_23.1 s_23.2.1 s_23.2.2], .agg #[.int .i64 x_24, .int .i64 x_25, .slice s_26.1 s_26.2.1 s_26.2.2]] r_19.2) fun r_27 =>
              (Option.bind (boolOf? (some r_27.1)) fun q_28 =>
              (if chkOk [(18, 17)] [(18, x3)] [(17, (r_9.2, r_19.2))] = true
              then (if (!q_28) = true
                then some (.bool false, r_27.2)
                else P4_50 L s_10.1 s_10.2.1 s_10.2.2 1 r_27.2)
              else none))))))))))))))
            else none)
          | none => none)))))))))))))))))) := QP4_31_eq L b4_50 c4_67 P4_31 (Classical.choose_spec XP4_31) P4_50 (Classical.choose_spec XP4_50) x3 x78 M
theorem QP4_50_eq (L : Rec) (b4_50 c4_61 c4_66 c4_67 : ACode) (hb : ∀ K t A, L.loop b4_50 K t A = code L (.post (.seq (.seq (.ops o4_53) (.cond (.tmp 107) (.skip) (.exit 0))) (.seq (.block 1 (.seq (.draw [] 0 o4_60 []) (.clear [0, 1, 2, 3, 4, 5, 6, 7, 8, 9, 10, 11, 12, 15, 16, 17, 18, 19, 20, 21, 22, 23, 24, 25, 26, 27, 28, 29, 30, 31, 32, 33, 34, 35, 36, 37, 38, 39, 40, 41, 42, 43, 44, 45, 46, 47, 48, 49, 50, 51, 52, 53, 54, 55, 56, 57, 58, 59, 60, 61, 62, 63, 64, 65, 66, 67, 68, 69, 70, 71, 72, 73, 74, 75, 76, 77, 78, 79, 80, 81, 82, 83, 84, 85, 86, 87, 88, 89, 90, 91, 92, 93, 94, 95, 96, 97, 98, 99, 100, 101, 102, 103, 104, 105, 106, 107, 108, 109, 110, 111, 112, 113, 114, 115, 116, 117, 118, 119, 120, 121, 122, 123, 124, 125, 126, 127, 128, 129, 130, 131, 132, 133, 134, 135, 136, 137, 138, 139, 140, 141, 142, 143, 144, 145, 146, 147, 149, 150, 151, 152, 153, 154, 155, 156, 157, 158, 159, 160, 161, 162, 163, 164, 165, 166, 167] c4_61))) (.clear [0, 1, 2, 3, 4, 5, 6, 7, 8, 9, 10, 11, 12, 15, 16, 17, 18, 19, 20, 21, 22, 23, 24, 25, 26, 27, 28, 29, 30, 31, 32, 33, 34, 35, 36, 37, 38, 39, 40, 41, 42, 43, 44, 45, 46, 47, 48, 49, 50, 51, 52, 53, 54, 55, 56, 57, 58, 59, 60, 61, 62, 63, 64, 65, 66, 67, 68, 69, 70, 71, 72, 73, 74, 75, 76, 77, 78, 79, 80, 81, 82, 83, 84, 85, 86, 87, 88, 89, 90, 91, 92, 93, 94, 95, 96, 97, 98, 99, 100, 101, 102, 103, 104, 105, 106, 107, 108, 109, 110, 111, 112, 113, 114, 115, 116, 117, 118, 119, 120, 121, 122, 123, 124, 125, 126, 127, 128, 129, 130, 131, 132, 133, 134, 135, 136, 137, 138, 139, 140, 141, 142, 143, 144, 145, 146, 147, 148, 149, 150, 151, 152, 153, 154, 155, 156, 157, 158, 159, 160, 161, 162, 163, 164, 165, 166, 167] c4_66))) [0, 1, 2, 3, 4, 5, 6, 7, 8, 9, 10, 11, 12, 15, 16, 17, 18, 19, 20, 21, 22, 23, 24, 25, 26, 27, 28, 29, 30, 31, 32, 33, 34, 35, 36, 37, 38, 39, 40, 41, 42, 43, 44, 45, 46, 47, 48, 49, 50, 51, 52, 53, 54, 55, 56, 57, 58, 59, 60, 61, 62, 63, 64, 65, 66, 67, 68, 69, 70, 71, 72, 73, 74, 75, 76, 77, 78, 79, 80, 81, 82, 83, 84, 85, 86, 87, 88, 89, 90, 91, 92, 93, 94, 95, 96, 97, 98, 99, 100, 101, 102, 103, 104, 105, 106, 107, 108, 109, 110, 111, 112, 113, 114, 115, 116, 117, 118, 119, 120, 121, 122, 123, 124, 125, 126, 127, 128, 129, 130, 131, 132, 133, 134, 135, 136, 137, 138, 139, 140, 141, 142, 143, 144, 145, 146, 147, 148, 149, 150, 151, 152, 153, 154, 155, 156, 157, 158, 159, 160, 161, 162, 163, 164, 165, 166, 167]) (loopK L b4_50 K) t A) (P4_50 : Rec → (Option Addr) → Nat → Nat → Int → AMem → Res) (hP4_50 : P4_50 = fun (L : Rec) (x13 : Option Addr) (x13n : Nat) (x13c : Nat) (x14 : Int) (M : AMem) => L.loop b4_50 (blockK 0 (seqK (code L (.clear [0, 1, 2, 3, 4, 5, 6, 7, 8, 9, 10, 11, 12, 14, 15, 16, 17, 18, 19, 20, 21, 22, 23, 24, 25, 26, 27, 28, 29, 30, 31, 32, 33, 34, 35, 36, 37, 38, 39, 40, 41, 42, 43, 44, 45, 46, 47, 48, 49, 50, 51, 52, 53, 54, 55, 56, 57, 58, 59, 60, 61, 62, 63, 64, 65, 66, 67, 68, 69, 70, 71, 72, 73, 74, 75, 76, 77, 78, 79, 80, 81, 82, 83, 84, 85, 86, 87, 88, 89, 90, 91, 92, 93, 94, 95, 96, 97, 98, 99, 100, 101, 102, 103, 104, 105, 106, 107, 108, 109, 110, 111, 112, 113, 114, 115, 116, 117, 118, 119, 120, 121, 122, 123, 124, 125, 126, 127, 128, 129, 130, 131, 132, 133, 134, 135, 136, 137, 138, 139, 140, 141, 142, 143, 144, 145, 146, 147, 148, 149, 150, 151, 152, 153, 154, 155, 156, 157, 158, 159, 160, 161, 162, 163, 164, 165, 166, 167] c4_67) (retK [.tmp 6])) (retK [.tmp 6]))) (s4_50 x13 x13n x13c x14 M) M) (P4_61 : Rec → (Option Addr) → Nat → Nat → Int → Bool → AMem → Res) (hP4_61 : P4_61 = fun (L : Rec) (x13 : Option Addr) (x13n : Nat) (x13c : Nat) (x14 : Int) (x148 : Bool) (M : AMem) => code L c4_61 (blockK 1 (seqK (code L (.clear [0, 1, 2, 3, 4, 5, 6, 7, 8, 9, 10, 11, 12, 15, 16, 17, 18, 19, 20, 21, 22, 23, 24, 25, 26, 27, 28, 29, 30, 31, 32, 33, 34, 35, 36, 37, 38, 39, 40, 41, 42, 43, 44, 45, 46, 47, 48, 49, 50, 51, 52, 53, 54, 55, 56, 57, 58, 59, 60, 61, 62, 63, 64, 65, 66, 67, 68, 69, 70, 71, 72, 73, 74, 75, 76, 77, 78, 79, 80, 81, 82, 83, 84, 85, 86, 87, 88, 89, 90, 91, 92, 93, 94, 95, 96, 97, 98, 99, 100, 101, 102, 103, 104, 105, 106, 107, 108, 109, 110, 111, 112, 113, 114, 115, 116, 117, 118, 119, 120, 121, 122, 123, 124, 125, 126, 127, 128, 129, 130, 131, 132, 133, 134, 135, 136, 137, 138, 139, 140, 141, 142, 143, 144, 145, 146, 147, 148, 149, 150, 151, 152, 153, 154, 155, 156, 157, 158, 159, 160, 161, 162, 163, 164, 165, 166, 167] c4_66) (postK [0, 1, 2, 3, 4, 5, 6, 7, 8, 9, 10, 11, 12, 15, 16, 17, 18, 19, 20, 21, 22, 23, 24, 25, 26, 27, 28, 29, 30, 31, 32, 33, 34, 35, 36, 37, 38, 39, 40, 41, 42, 43, 44, 45, 46, 47, 48, 49, 50, 51, 52, 53, 54, 55, 56, 57, 58, 59, 60, 61, 62, 63, 64, 65, 66, 67, 68, 69, 70, 71, 72, 73, 74, 75, 76, 77, 78, 79, 80, 81, 82, 83, 84, 85, 86, 87, 88, 89, 90, 91, 92, 93, 94, 95, 96, 97, 98, 99, 100, 101, 102, 103, 104, 105, 106, 107, 108, 109, 110, 111, 112, 113, 114, 115, 116, 117, 118, 119, 120, 121, 122, 123, 124, 125, 126, 127, 128, 129, 130, 131, 132, 133, 134, 135, 136, 137, 138, 139, 140, 141, 142, 143, 144, 145, 146, 147, 148, 149, 150, 151, 152, 153, 154, 155, 156, 157, 158, 159, 160, 161, 162, 163, 164, 165, 166, 167] (loopK L b4_50 (blockK 0 (seqK (code L (.clear [0, 1, 2, 3, 4, 5, 6, 7, 8, 9, 10, 11, 12, 14, 15, 16, 17, 18, 19, 20, 21, 22, 23, 24, 25, 26, 27, 28, 29, 30, 31, 32, 33, 34, 35, 36, 37, 38, 39, 40, 41, 42, 43, 44, 45, 46, 47, 48, 49, 50, 51, 52, 53, 54, 55, 56, 57, 58, 59, 60, 61, 62, 63, 64, 65, 66, 67, 68, 69, 70, 71, 72, 73, 74, 75, 76, 77, 78, 79, 80, 81, 82, 83, 84, 85, 86, 87, 88, 89, 90, 91, 92, 93, 94, 95, 96, 97, 98, 99, 100, 101, 102, 103, 104, 105, 106, 107, 108, 109, 110, 111, 112, 113, 114, 115, 116, 117, 118, 119, 120, 121, 122, 123, 124, 125, 126, 127, 128, 129, 130, 131, 132, 133, 134, 135, 136, 137, 138, 139, 140, 141, 142, 143, 144, 145, 146, 147, 148, 149, 150, 151, 152, 153, 154, 155, 156, 157, 158, 159, 160, 161, 162, 163, 164, 165, 166, 167] c4_67) (retK [.tmp 6])) (retK [.tmp 6])))))) (postK [0, 1, 2, 3, 4, 5, 6, 7, 8, 9, 10, 11, 12, 15, 16, 17, 18, 19, 20, 21, 22, 23, 24, 25, 26, 27, 28, 29, 30, 31, 32, 33, 34, 35, 36, 37, 38, 39, 40, 41, 42, 43, 44, 45, 46, 47, 48, 49, 50, 51, 52, 53, 54, 55, 56, 57, 58, 59, 60, 61, 62, 63, 64, 65, 66, 67, 68, 69, 70, 71, 72, 73, 74, 75, 76, 77, 78, 79, 80, 81, 82, 83, 84, 85, 86, 87, 88, 89, 90, 91, 92, 93, 94, 95, 96, 97, 98, 99, 100, 101, 102, 103, 104, 105, 106, 107, 108, 109, 110, 111, 112, 113, 114, 115, 116, 117, 118, 119, 120, 121, 122, 123, 124, 125, 126, 127, 128, 129, 130, 131, 132, 133, 134, 135, 136, 137, 138, 139, 140, 141, 142, 143, 144, 145, 146, 147, 148, 149, 150, 151, 152, 153, 154, 155, 156, 157, 158, 159, 160, 161, 162, 163, 164, 165, 166, 167] (loopK L b4_50 (blockK 0 (seqK (code L (.clear [0, 1, 2, 3, 4, 5, 6, 7, 8, 9, 10, 11, 12, 14, 15, 16, 17, 18, 19, 20, 21, 22, 23, 24, 25, 26, 27, 28, 29, 30, 31, 32, 33, 34, 35, 36, 37, 38, 39, 40, 41, 42, 43, 44, 45, 46, 47, 48, 49, 50, 51, 52, 53, 54, 55, 56, 57, 58, 59, 60, 61, 62, 63, 64, 65, 66, 67, 68, 69, 70, 71, 72, 73, 74, 75, 76, 77, 78, 79, 80, 81, 82, 83, 84, 85, 86, 87, 88, 89, 90, 91, 92, 93, 94, 95, 96, 97, 98, 99, 100, 101, 102, 103, 104, 105, 106, 107, 108, 109, 110, 111, 112, 113, 114, 115, 116, 117, 118, 119, 120, 121, 122, 123, 124, 125, 126, 127, 128, 129, 130, 131, 132, 133, 134, 135, 136, 137, 138, 139, 140, 141, 142, 143, 144, 145, 146, 147, 148, 149, 150, 151, 152, 153, 154, 155, 156, 157, 158, 159, 160, 161, 162, 163, 164, 165, 166, 167] c4_67) (retK [.tmp 6])) (retK [.tmp 6]))))))) (s4_61 x13 x13n x13c x14 x148 M) M) (P4_67 : Rec → (Option Addr) → Nat → Nat → AMem → Res) (hP4_67 : P4_67 = fun (L : Rec) (x13 : Option Addr) (x13n : Nat) (x13c : Nat) (M : AMem) => code L c4_67 (retK [.tmp 6]) (s4_67 x13 x13n x13c M) M) (x13 : Option Addr) (x13n : Nat) (x13c : Nat) (x14 : Int) (M : AMem) : P4_50 L x13 x13n x13c x14 M =
  (if (decide (x14 < (Int.ofNat x13n))) = true
    then (match x13 with
      | some a_1 => (if (0 : Int) ≤ x14 ∧ x14 < (Int.ofNat x13n)
        then (Option.bind (intOf? .i64 (AMem.ld M a_1.block (a_1.off + ((Int.toNat x14) * 3)))) fun x_2 =>
          (match x13 with
          | some a_3 => (if (0 : Int) ≤ (IntKind.wrap .i64 (x14 - 1)) ∧ (IntKind.wrap .i64 (x14 - 1)) < (Int.ofNat x13n)
            then (Option.bind (intOf? .i64 (AMem.ld M a_3.block (a_3.off + ((Int.toNat (IntKind.wrap .i64 (x14 - 1))) * 3)))) fun x_4 =>
              (if (x_2 != (IntKind.wrap .i64 (Int.tdiv (IntKind.wrap .i64 (x_4 + 1)) 2))) = true
              then P4_61 L x13 x13n x13c x14 true M
              else (match x13 with
                | some a_5 => (if (0 : Int) ≤ x14 ∧ x14 < (Int.ofNat x13n)
                  then (Option.bind (intOf? .i64 (AMem.ld M a_5.block ((a_5.off + ((Int.toNat x14) * 3)) + 1))) fun x_6 =>
                    (match x13 with
                    | some a_7 => (if (0 : Int) ≤ (IntKind.wrap .i64 (x14 - 1)) ∧ (IntKind.wrap .i64 (x14 - 1)) < (Int.ofNat x13n)
                      then (Option.bind (intOf? .i64 (AMem.ld M a_7.block ((a_7.off + ((Int.toNat (IntKind.wrap .i64 (x14 - 1))) * 3)) + 1))) fun x_8 =>
                        (if (x_6 != (IntKind.wrap .i64 (Int.tdiv (IntKind.wrap .i64 (x_8 + 1)) 2))) = true
                        then P4_61 L x13 x13n x13c x14 true M
                        else (match x13 with
                          | some a_9 => (if (0 : Int) ≤ x14 ∧ x14 < (Int.ofNat x13n)
                            then (Option.bind (intOf? .i64 (AMem.ld M a_9.block (a_9.off + ((Int.toNat x14) * 3)))) fun x_10 =>
                              (Option.bind (intOf? .i64 (AMem.ld M a_9.block ((a_9.off + ((Int.toNat x14) * 3)) + 1))) fun x_11 =>
                              (Option.bind (sliceOf? (AMem.ld M a_9.block ((a_9.off + ((Int.toNat x14) * 3)) + 2))) fun s_12 =>
                              (Option.bind (L.call 13 [.agg #[.int .i64 x_10, .int .i64 x_11, .slice s_12.1 s_12.2.1 s_12.2.2]] M) fun r_13 =>
                              (Option.bind (aggOf? 3 r_13.1) fun cs_14 =>
                              (Option.bind (intOf? .i64 (cs_14[0]?)) fun x_15 =>
                              (Option.bind (intOf? .i64 (cs_14[1]?)) fun x_16 =>
                              (Option.bind (sliceOf? (cs_14[2]?)) fun s_17 =>
                              (Option.bind (L.call 6 [.agg #[.int .i64 x_15, .int .i64 x_16, .slice s_17.1 s_17.2.1 s_17.2.2]] r_13.2) fun r_18 =>
                              (Option.bind (boolOf? (some r_18.1)) fun q_19 =>
                              P4_61 L x13 x13n x13c x14 (!q_19) r_18.2))))))))))
                            else none)
                          | none => none)))
                      else none)
                    | none => none))
                  else none)
                | none => none)))
            else none)
          | none => none))
        else none)
      | none => none)
    else P4_67 L x13 x13n x13c M) := by
  subst hP4_50; subst hP4_61; subst hP4_67; exact (hb (blockK 0 (seqK (code L (.clear [0, 1, 2, 3, 4, 5, 6, 7, 8, 9, 10, 11, 12, 14, 15, 16, 17, 18, 19, 20, 21, 22, 23, 24, 25, 26, 27, 28, 29, 30, 31, 32, 33, 34, 35, 36, 37, 38, 39, 40, 41, 42, 43, 44, 45, 46, 47, 48, 49, 50, 51, 52, 53, 54, 55, 56, 57, 58, 59, 60, 61, 62, 63, 64, 65, 66, 67, 68, 69, 70, 71, 72, 73, 74, 75, 76, 77, 78, 79, 80, 81, 82, 83, 84, 85, 86, 87, 88, 89, 90, 91, 92, 93, 94, 95, 96, 97, 98, 99, 100, 101, 102, 103, 104, 105, 106, 107, 108, 109, 110, 111, 112, 113, 114, 115, 116, 117, 118, 119, 120, 121, 122, 123, 124, 125, 126, 127, 128, 129, 130, 131, 132, 133, 134, 135, 136, 137, 138, 139, 140, 141, 142, 143, 144, 145, 146, 147, 148, 149, 150, 151, 152, 153, 154, 155, 156, 157, 158, 159, 160, 161, 162, 163, 164, 165, 166, 167] c4_67) (retK [.tmp 6])) (retK [.tmp 6]))) (s4_50 x13 x13n x13c x14 M) M).trans (by kernel_rfl)
theorem P4_50_eq (L : Rec) (hL : ∀ b K t A, L.loop b K t A = code L b (loopK L b K) t A) (x13 : Option Addr) (x13n : Nat) (x13c : Nat) (x14 : Int) (M : AMem) : P4_50 L x13 x13n x13c x14 M =
  (if (decide (x14 < (Int.ofNat x13n))) = true
    then (match x13 with
      | some a_1 => (if (0 : Int) ≤ x14 ∧ x14 < (Int.ofNat x13n)
        then (Option.bind (intOf? .i64 (AMem.ld M a_1.block (a_1.off + ((Int.toNat x14) * 3)))) fun x_2 =>
          (match x13 with
          | some a_3 => (if (0 : Int) ≤ (IntKind.wrap .i64 (x14 - 1)) ∧ (IntKind.wrap .i64 (x14 - 1)) < (Int.ofNat x13n)
            then (Option.bind (intOf? .i64 (AMem.ld M a_3.block (a_3.off + ((Int.toNat (IntKind.wrap .i64 (x14 - 1))) * 3)))) fun x_4 =>
              (if (x_2 != (IntKind.wrap .i64 (Int.tdiv (IntKind.wrap .i64 (x_4 + 1)) 2))) = true
              then P4_61 L x13 x13n x13c x14 true M
              else (match x13 with
                | some a_5 => (if (0 : Int) ≤ x14 ∧ x14 < (Int.ofNat x13n)
                  then (Option.bind (intOf? .i64 (AMem.ld M a_5.block ((a_5.off + ((Int.toNat x14) * 3)) + 1))) fun x_6 =>
                    (match x13 with
                    | some a_7 => (if (0 : Int) ≤ (IntKind.wrap .i64 (x14 - 1)) ∧ (IntKind.wrap .i64 (x14 - 1)) < (Int.ofNat x13n)
                      then (Option.bind (intOf? .i64 (AMem.ld M a_7.block ((a_7.off + ((Int.toNat (IntKind.wrap .i64 (x14 - 1))) * 3)) + 1))) fun x_8 =>
                        (if (x_6 != (IntKind.wrap .i64 (Int.tdiv (IntKind.wrap .i64 (x_8 + 1)) 2))) = true
                        then P4_61 L x13 x13n x13c x14 true M
                        else (match x13 with
                          | some a_9 => (if (0 : Int) ≤ x14 ∧ x14 < (Int.ofNat x13n)
                            then (Option.bind (intOf? .i64 (AMem.ld M a_9.block (a_9.off + ((Int.toNat x14) * 3)))) fun x_10 =>
                              (Option.bind (intOf? .i64 (AMem.ld M a_9.block ((a_9.off + ((Int.toNat x14) * 3)) + 1))) fun x_11 =>
                              (Option.bind (sliceOf? (AMem.ld M a_9.block ((a_9.off + ((Int.toNat x14) * 3)) + 2))) fun s_12 =>
                              (Option.bind (L.call 13 [.agg #[.int .i64 x_10, .int .i64 x_11, .slice s_12.1 s_12.2.1 s_12.2.2]] M) fun r_13 =>
                              (Option.bind (aggOf? 3 r_13.1) fun cs_14 =>
                              (Option.bind (intOf? .i64 (cs_14[0]?)) fun x_15 =>
                              (Option.bind (intOf? .i64 (cs_14[1]?)) fun x_16 =>
                              (Option.bind (sliceOf? (cs_14[2]?)) fun s_17 =>
                              (Option.bind (L.call 6 [.agg #[.int .i64 x_15, .int .i64 x_16, .slice s_17.1 s_17.2.1 s_17.2.2]] r_13.2) fun r_18 =>
                              (Option.bind (boolOf? (some r_18.1)) fun q_19 =>
                              P4_61 L x13 x13n x13c x14 (!q_19) r_18.2))))))))))
                            else none)
                          | none => none)))
                      else none)
                    | none => none))
                  else none)
                | none => none)))
            else none)
          | none => none))
        else none)
      | none => none)
    else P4_67 L x13 x13n x13c M) := QP4_50_eq L b4_50 c4_61 c4_66 c4_67 (hL b4_50) P4_50 (Classical.choose_spec XP4_50) P4_61 (Classical.choose_spec XP4_61) P4_67 (Classical.choose_spec XP4_67) x13 x13n x13c x14 M
theorem QP4_61_eq (L : Rec) (b4_50 c4_66 c4_67 : ACode) (P4_61 : Rec → (Option Addr) → Nat → Nat → Int → Bool → AMem → Res) (hP4_61 : P4_61 = fun (L : Rec) (x13 : Option Addr) (x13n : Nat) (x13c : Nat) (x14 : Int) (x148 : Bool) (M : AMem) => code L (.cond (.tmp 148) (.seq (.ops o4_63) (.ret)) (.skip)) (blockK 1 (seqK (code L (.clear [0, 1, 2, 3, 4, 5, 6, 7, 8, 9, 10, 11, 12, 15, 16, 17, 18, 19, 20, 21, 22, 23, 24, 25, 26, 27, 28, 29, 30, 31, 32, 33, 34, 35, 36, 37, 38, 39, 40, 41, 42, 43, 44, 45, 46, 47, 48, 49, 50, 51, 52, 53, 54, 55, 56, 57, 58, 59, 60, 61, 62, 63, 64, 65, 66, 67, 68, 69, 70, 71, 72, 73, 74, 75, 76, 77, 78, 79, 80, 81, 82, 83, 84, 85, 86, 87, 88, 89, 90, 91, 92, 93, 94, 95, 96, 97, 98, 99, 100, 101, 102, 103, 104, 105, 106, 107, 108, 109, 110, 111, 112, 113, 114, 115, 116, 117, 118, 119, 120, 121, 122, 123, 124, 125, 126, 127, 128, 129, 130, 131, 132, 133, 134, 135, 136, 137, 138, 139, 140, 141, 142, 143, 144, 145, 146, 147, 148, 149, 150, 151, 152, 153, 154, 155, 156, 157, 158, 159, 160, 161, 162, 163, 164, 165, 166, 167] c4_66) (postK [0, 1, 2, 3, 4, 5, 6, 7, 8, 9, 10, 11, 12, 15, 16, 17, 18, 19, 20, 21, 22, 23, 24, 25, 26, 27, 28, 29, 30, 31, 32, 33, 34, 35, 36, 37, 38, 39, 40, 41, 42, 43, 44, 45, 46, 47, 48, 49, 50, 51, 52, 53, 54, 55, 56, 57, 58, 59, 60, 61, 62, 63, 64, 65, 66, 67, 68, 69, 70, 71, 72, 73, 74, 75, 76, 77, 78, 79, 80, 81, 82, 83, 84, 85, 86, 87, 88, 89, 90, 91, 92, 93, 94, 95, 96, 97, 98, 99, 100, 101, 102, 103, 104, 105, 106, 107, 108, 109, 110, 111, 112, 113, 114, 115, 116, 117, 118, 119, 120, 121, 122, 123, 124, 125, 126, 127, 128, 129, 130, 131, 132, 133, 134, 135, 136, 137, 138, 139, 140, 141, 142, 143, 144, 145, 146, 147, 148, 149, 150, 151, 152, 153, 154, 155, 156, 157, 158, 159, 160, 161, 162, 163, 164, 165, 166, 167] (loopK L b4_50 (blockK 0 (seqK (code L (.clear [0, 1, 2, 3, 4, 5, 6, 7, 8, 9, 10, 11, 12, 14, 15, 16, 17, 18, 19, 20, 21, 22, 23, 24, 25, 26, 27, 28, 29, 30, 31, 32, 33, 34, 35, 36, 37, 38, 39, 40, 41, 42, 43, 44, 45, 46, 47, 48, 49, 50, 51, 52, 53, 54, 55, 56, 57, 58, 59, 60, 61, 62, 63, 64, 65, 66, 67, 68, 69, 70, 71, 72, 73, 74, 75, 76, 77, 78, 79, 80, 81, 82, 83, 84, 85, 86, 87, 88, 89, 90, 91, 92, 93, 94, 95, 96, 97, 98, 99, 100, 101, 102, 103, 104, 105, 106, 107, 108, 109, 110, 111, 112, 113, 114, 115, 116, 117, 118, 119, 120, 121, 122, 123, 124, 125, 126, 127, 128, 129, 130, 131, 132, 133, 134, 135, 136, 137, 138, 139, 140, 141, 142, 143, 144, 145, 146, 147, 148, 149, 150, 151, 152, 153, 154, 155, 156, 157, 158, 159, 160, 161, 162, 163, 164, 165, 166, 167] c4_67) (retK [.tmp 6])) (retK [.tmp 6])))))) (postK [0, 1, 2, 3, 4, 5, 6, 7, 8, 9, 10, 11, 12, 15, 16, 17, 18, 19, 20, 21, 22, 23, 24, 25, 26, 27, 28, 29, 30, 31, 32, 33, 34, 35, 36, 37, 38, 39, 40, 41, 42, 43, 44, 45, 46, 47, 48, 49, 50, 51, 52, 53, 54, 55, 56, 57, 58, 59, 60, 61, 62, 63, 64, 65, 66, 67, 68, 69, 70, 71, 72, 73, 74, 75, 76, 77, 78, 79, 80, 81, 82, 83, 84, 85, 86, 87, 88, 89, 90, 91, 92, 93, 94, 95, 96, 97, 98, 99, 100, 101, 102, 103, 104, 105, 106, 107, 108, 109, 110, 111, 112, 113, 114, 115, 116, 117, 118, 119, 120, 121, 122, 123, 124, 125, 126, 127, 128, 129, 130, 131, 132, 133, 134, 135, 136, 137, 138, 139, 140, 141, 142, 143, 144, 145, 146, 147, 148, 149, 150, 151, 152, 153, 154, 155, 156, 157, 158, 159, 160, 161, 162, 163, 164, 165, 166, 167] (loopK L b4_50 (blockK 0 (seqK (code L (.clear [0, 1, 2, 3, 4, 5, 6, 7, 8, 9, 10, 11, 12, 14, 15, 16, 17, 18, 19, 20, 21, 22, 23, 24, 25, 26, 27, 28, 29, 30, 31, 32, 33, 34, 35, 36, 37, 38, 39, 40, 41, 42, 43, 44, 45, 46, 47, 48, 49, 50, 51, 52, 53, 54, 55, 56, 57, 58, 59, 60, 61, 62, 63, 64, 65, 66, 67, 68, 69, 70, 71, 72, 73, 74, 75, 76, 77, 78, 79, 80, 81, 82, 83, 84, 85, 86, 87, 88, 89, 90, 91, 92, 93, 94, 95, 96, 97, 98, 99, 100, 101, 102, 103, 104, 105, 106, 107, 108, 109, 110, 111, 112, 113, 114, 115, 116, 117, 118, 119, 120, 121, 122, 123, 124, 125, 126, 127, 128, 129, 130, 131, 132, 133, 134, 135, 136, 137, 138, 139, 140, 141, 142, 143, 144, 145, 146, 147, 148, 149, 150, 151, 152, 153, 154, 155, 156, 157, 158, 159, 160, 161, 162, 163, 164, 165, 166, 167] c4_67) (retK [.tmp 6])) (retK [.tmp 6]))))))) (s4_61 x13 x13n x13c x14 x148 M) M) (P4_66 : Rec → (Option Addr) → Nat → Nat → Int → AMem → Res) (hP4_66 : P4_66 = fun (L : Rec) (x13 : Option Addr) (x13n : Nat) (x13c : Nat) (x14 : Int) (M : AMem) => code L c4_66 (postK [0, 1, 2, 3, 4, 5, 6, 7, 8, 9, 10, 11, 12, 15, 16, 17, 18, 19, 20, 21, 22, 23, 24, 25, 26, 27, 28, 29, 30, 31, 32, 33, 34, 35, 36, 37, 38, 39, 40, 41, 42, 43, 44, 45, 46, 47, 48, 49, 50, 51, 52, 53, 54, 55, 56, 57, 58, 59, 60, 61, 62, 63, 64, 65, 66, 67, 68, 69, 70, 71, 72, 73, 74, 75, 76, 77, 78, 79, 80, 81, 82, 83, 84, 85, 86, 87, 88, 89, 90, 91, 92, 93, 94, 95, 96, 97, 98, 99, 100, 101, 102, 103, 104, 105, 106, 107, 108, 109, 110, 111, 112, 113, 114, 115, 116, 117, 118, 119, 120, 121, 122, 123, 124, 125, 126, 127, 128, 129, 130, 131, 132, 133, 134, 135, 136, 137, 138, 139, 140, 141, 142, 143, 144, 145, 146, 147, 148, 149, 150, 151, 152, 153, 154, 155, 156, 157, 158, 159, 160, 161, 162, 163, 164, 165, 166, 167] (loopK L b4_50 (blockK 0 (seqK (code L (.clear [0, 1, 2, 3, 4, 5, 6, 7, 8, 9, 10, 11, 12, 14, 15, 16, 17, 18, 19, 20, 21, 22, 23, 24, 25, 26, 27, 28, 29, 30, 31, 32, 33, 34, 35, 36, 37, 38, 39, 40, 41, 42, 43, 44, 45, 46, 47, 48, 49, 50, 51, 52, 53, 54, 55, 56, 57, 58, 59, 60, 61, 62, 63, 64, 65, 66, 67, 68, 69, 70, 71, 72, 73, 74, 75, 76, 77, 78, 79, 80, 81, 82, 83, 84, 85, 86, 87, 88, 89, 90, 91, 92, 93, 94, 95, 96, 97, 98, 99, 100, 101, 102, 103, 104, 105, 106, 107, 108, 109, 110, 111, 112, 113, 114, 115, 116, 117, 118, 119, 120, 121, 122, 123, 124, 125, 126, 127, 128, 129, 130, 131, 132, 133, 134, 135, 136, 137, 138, 139, 140, 141, 142, 143, 144, 145, 146, 147, 148, 149, 150, 151, 152, 153, 154, 155, 156, 157, 158, 159, 160, 161, 162, 163, 164, 165, 166, 167] c4_67) (retK [.tmp 6])) (retK [.tmp 6]))))) (s4_66 x13 x13n x13c x14 M) M) (x13 : Option Addr) (x13n : Nat) (x13c : Nat) (x14 : Int) (x148 : Bool) (M : AMem) : P4_61 L x13 x13n x13c x14 x148 M =
  (if x148 = true
    then some (.bool false, M)
    else P4_66 L x13 x13n x13c x14 M) := by
  subst hP4_61; subst hP4_66; kernel_rfl
theorem P4_61_eq (L : Rec) (x13 : Option Addr) (x13n : Nat) (x13c : Nat) (x14 : Int) (x148 : Bool) (M : AMem) : P4_61 L x13 x13n x13c x14 x148 M =
  (if x148 = true
    then some (.bool false, M)
    else P4_66 L x13 x13n x13c x14 M) := QP4_61_eq L b4_50 c4_66 c4_67 P4_61 (Classical.choose_spec XP4_61) P4_66 (Classical.choose_spec XP4_66) x13 x13n x13c x14 x148 M
theorem QP4_67_eq (L : Rec) (P4_67 : Rec → (Option Addr) → Nat → Nat → AMem → Res) (hP4_67 : P4_67 = fun (L : Rec) (x13 : Option Addr) (x13n : Nat) (x13c : Nat) (M : AMem) => code L (.seq (.draw [] 0 o4_68 []) (.ret)) (retK [.tmp 6]) (s4_67 x13 x13n x13c M) M) (x13 : Option Addr) (x13n : Nat) (x13c : Nat) (M : AMem) : P4_67 L x13 x13n x13c M =
  (match x13 with
    | some a_1 => (if (0 : Int) ≤ (IntKind.wrap .i64 ((Int.ofNat x13n) - 1)) ∧ (IntKind.wrap .i64 ((Int.ofNat x13n) - 1)) < (Int.ofNat x13n)
      then (Option.bind (intOf? .i64 (AMem.ld M a_1.block (a_1.off + ((Int.toNat (IntKind.wrap .i64 ((Int.ofNat x13n) - 1))) * 3)))) fun x_2 =>
        (match x13 with
        | some a_3 => (if (0 : Int) ≤ (IntKind.wrap .i64 ((Int.ofNat x13n) - 1)) ∧ (IntKind.wrap .i64 ((Int.ofNat x13n) - 1)) < (Int.ofNat x13n)
          then (Option.bind (intOf? .i64 (AMem.ld M a_3.block ((a_3.off + ((Int.toNat (IntKind.wrap .i64 ((Int.ofNat x13n) - 1))) * 3)) + 1))) fun x_4 =>
            (if ((IntKind.wrap .i64 (x_2 * x_4)) == 1) = true
            then (Option.bind (L.call 7 [] []) fun r_5 =>
              (Option.bind (boolOf? (some r_5.1)) fun q_6 =>
              some (.bool q_6, M)))
            else some (.bool false, M)))
          else none)
        | none => none))
      else none)
    | none => none) := by
  subst hP4_67; kernel_rfl
theorem P4_67_eq (L : Rec) (x13 : Option Addr) (x13n : Nat) (x13c : Nat) (M : AMem) : P4_67 L x13 x13n x13c M =
  (match x13 with
    | some a_1 => (if (0 : Int) ≤ (IntKind.wrap .i64 ((Int.ofNat x13n) - 1)) ∧ (IntKind.wrap .i64 ((Int.ofNat x13n) - 1)) < (Int.ofNat x13n)
      then (Option.bind (intOf? .i64 (AMem.ld M a_1.block (a_1.off + ((Int.toNat (IntKind.wrap .i64 ((Int.ofNat x13n) - 1))) * 3)))) fun x_2 =>
        (match x13 with
        | some a_3 => (if (0 : Int) ≤ (IntKind.wrap .i64 ((Int.ofNat x13n) - 1)) ∧ (IntKind.wrap .i64 ((Int.ofNat x13n) - 1)) < (Int.ofNat x13n)
          then (Option.bind (intOf? .i64 (AMem.ld M a_3.block ((a_3.off + ((Int.toNat (IntKind.wrap .i64 ((Int.ofNat x13n) - 1))) * 3)) + 1))) fun x_4 =>
            (if ((IntKind.wrap .i64 (x_2 * x_4)) == 1) = true
            then (Option.bind (L.call 7 [] []) fun r_5 =>
              (Option.bind (boolOf? (some r_5.1)) fun q_6 =>
              some (.bool q_6, M)))
            else some (.bool false, M)))
          else none)
        | none => none))
      else none)
    | none => none) := QP4_67_eq L P4_67 (Classical.choose_spec XP4_67) x13 x13n x13c M
theorem QP4_66_eq (L : Rec) (b4_50 c4_67 : ACode) (P4_50 : Rec → (Option Addr) → Nat → Nat → Int → AMem → Res) (hP4_50 : P4_50 = fun (L : Rec) (x13 : Option Addr) (x13n : Nat) (x13c : Nat) (x14 : Int) (M : AMem) => L.loop b4_50 (blockK 0 (seqK (code L (.clear [0, 1, 2, 3, 4, 5, 6, 7, 8, 9, 10, 11, 12, 14, 15, 16, 17, 18, 19, 20, 21, 22, 23, 24, 25, 26, 27, 28, 29, 30, 31, 32, 33, 34, 35, 36, 37, 38, 39, 40, 41, 42, 43, 44, 45, 46, 47, 48, 49, 50, 51, 52, 53, 54, 55, 56, 57, 58, 59, 60, 61, 62, 63, 64, 65, 66, 67, 68, 69, 70, 71, 72, 73, 74, 75, 76, 77, 78, 79, 80, 81, 82, 83, 84, 85, 86, 87, 88, 89, 90, 91, 92, 93, 94, 95, 96, 97, 98, 99, 100, 101, 102, 103, 104, 105, 106, 107, 108, 109, 110, 111, 112, 113, 114, 115, 116, 117, 118, 119, 120, 121, 122, 123, 124, 125, 126, 127, 128, 129, 130, 131, 132, 133, 134, 135, 136, 137, 138, 139, 140, 141, 142, 143, 144, 145, 146, 147, 148, 149, 150, 151, 152, 153, 154, 155, 156, 157, 158, 159, 160, 161, 162, 163, 164, 165, 166, 167] c4_67) (retK [.tmp 6])) (retK [.tmp 6]))) (s4_50 x13 x13n x13c x14 M) M) (P4_66 : Rec → (Option Addr) → Nat → Nat → Int → AMem → Res) (hP4_66 : P4_66 = fun (L : Rec) (x13 : Option Addr) (x13n : Nat) (x13c : Nat) (x14 : Int) (M : AMem) => code L (.ops o4_66) (postK [0, 1, 2, 3, 4, 5, 6, 7, 8, 9, 10, 11, 12, 15, 16, 17, 18, 19, 20, 21, 22, 23, 24, 25, 26, 27, 28, 29, 30, 31, 32, 33, 34, 35, 36, 37, 38, 39, 40, 41, 42, 43, 44, 45, 46, 47, 48, 49, 50, 51, 52, 53, 54, 55, 56, 57, 58, 59, 60, 61, 62, 63, 64, 65, 66, 67, 68, 69, 70, 71, 72, 73, 74, 75, 76, 77, 78, 79, 80, 81, 82, 83, 84, 85, 86, 87, 88, 89, 90, 91, 92, 93, 94, 95, 96, 97, 98, 99, 100, 101, 102, 103, 104, 105, 106, 107, 108, 109, 110, 111, 112, 113, 114, 115, 116, 117, 118, 119, 120, 121, 122, 123, 124, 125, 126, 127, 128, 129, 130, 131, 132, 133, 134, 135, 136, 137, 138, 139, 140, 141, 142, 143, 144, 145, 146, 147, 148, 149, 150, 151, 152, 153, 154, 155, 156, 157, 158, 159, 160, 161, 162, 163, 164, 165, 166, 167] (loopK L b4_50 (blockK 0 (seqK (code L (.clear [0, 1, 2, 3, 4, 5, 6, 7, 8, 9, 10, 11, 12, 14, 15, 16, 17, 18, 19, 20, 21, 22, 23, 24, 25, 26, 27, 28, 29, 30, 31, 32, 33, 34, 35, 36, 37, 38, 39, 40, 41, 42, 43, 44, 45, 46, 47, 48, 49, 50, 51, 52, 53, 54, 55, 56, 57, 58, 59, 60, 61, 62, 63, 64, 65, 66, 67, 68, 69, 70, 71, 72, 73, 74, 75, 76, 77, 78, 79, 80, 81, 82, 83, 84, 85, 86, 87, 88, 89, 90, 91, 92, 93, 94, 95, 96, 97, 98, 99, 100, 101, 102, 103, 104, 105, 106, 107, 108, 109, 110, 111, 112, 113, 114, 115, 116, 117, 118, 119, 120, 121, 122, 123, 124, 125, 126, 127, 128, 129, 130, 131, 132, 133, 134, 135, 136, 137, 138, 139, 140, 141, 142, 143, 144, 145, 146, 147, 148, 149, 150, 151, 152, 153, 154, 155, 156, 157, 158, 159, 160, 161, 162, 163, 164, 165, 166, 167] c4_67) (retK [.tmp 6])) (retK [.tmp 6]))))) (s4_66 x13 x13n x13c x14 M) M) (x13 : Option Addr) (x13n : Nat) (x13c : Nat) (x14 : Int) (M : AMem) : P4_66 L x13 x13n x13c x14 M =
  P4_50 L x13 x13n x13c (IntKind.wrap .i64 (x14 + 1)) M := by
  subst hP4_50; subst hP4_66; kernel_rfl
theorem P4_66_eq (L : Rec) (x13 : Option Addr) (x13n : Nat) (x13c : Nat) (x14 : Int) (M : AMem) : P4_66 L x13 x13n x13c x14 M =
  P4_50 L x13 x13n x13c (IntKind.wrap .i64 (x14 + 1)) M := QP4_66_eq L b4_50 c4_67 P4_50 (Classical.choose_spec XP4_50) P4_66 (Classical.choose_spec XP4_66) x13 x13n x13c x14 M
theorem QE4 (L : Rec) (c4_18 : ACode) (P4_18 : Rec → Bool → Nat → Int → Int → AMem → Res) (hP4_18 : P4_18 = fun (L : Rec) (x2 : Bool) (x3 : Nat) (x7 : Int) (x8 : Int) (M : AMem) => code L c4_18 (retK [.tmp 6]) (s4_18 x2 x3 x7 x8 M) M) (x0_0 : Int) (x0_1 : Int) (x0_2 : Option Addr) (x0_2n : Nat) (x0_2c : Nat) (x1 : Bool) (x2 : Bool) (M : AMem) : enterF L ⟨168, [.tmp 6], .seq (.ops o4_1) (.seq (.seq (.ops o4_4) (.cond (.tmp 23) (.seq (.ops o4_7) (.ret)) (.skip))) (.seq (.draw [] 0 o4_11 []) (.seq (.seq (.ops o4_14) (.cond (.tmp 31) (.ops o4_16) (.skip))) (.clear [0, 1, 4, 5, 6, 9, 10, 11, 12, 13, 14, 15, 16, 17, 18, 19, 20, 21, 22, 23, 24, 25, 26, 27, 28, 29, 30, 31, 32, 33, 34, 35, 36, 37, 38, 39, 40, 41, 42, 43, 44, 45, 46, 47, 48, 49, 50, 51, 52, 53, 54, 55, 56, 57, 58, 59, 60, 61, 62, 63, 64, 65, 66, 67, 68, 69, 70, 71, 72, 73, 74, 75, 76, 77, 78, 79, 80, 81, 82, 83, 84, 85, 86, 87, 88, 89, 90, 91, 92, 93, 94, 95, 96, 97, 98, 99, 100, 101, 102, 103, 104, 105, 106, 107, 108, 109, 110, 111, 112, 113, 114, 115, 116, 117, 118, 119, 120, 121, 122, 123, 124, 125, 126, 127, 128, 129, 130, 131, 132, 133, 134, 135, 136, 137, 138, 139, 140, 141, 142, 143, 144, 145, 146, 147, 148, 149, 150, 151, 152, 153, 154, 155, 156, 157, 158, 159, 160, 161, 162, 163, 164, 165, 166, 167] c4_18))))⟩ [.agg #[.int .i64 x0_0, .int .i64 x0_1, .slice x0_2 x0_2n x0_2c], .bool x1, .bool x2] M =
  (Option.bind (intOf? .i64 (AMem.ld (M ++ [AObj.cells [.int .i64 x0_0, .int .i64 x0_1, .slice x0_2 x0_2n x0_2c] ⟨false, 0⟩]) (List.length M) 0)) fun x_1 =>
    (Option.bind (intOf? .i64 (AMem.ld (M ++ [AObj.cells [.int .i64 x0_0, .int .i64 x0_1, .slice x0_2 x0_2n x0_2c] ⟨false, 0⟩]) (List.length M) 1)) fun x_2 =>
    (Option.bind (sliceOf? (AMem.ld (M ++ [AObj.cells [.int .i64 x0_0, .int .i64 x0_1, .slice x0_2 x0_2n x0_2c] ⟨false, 0⟩]) (List.length M) 2)) fun s_3 =>
    (Option.bind (L.call 6 [.agg #[.int .i64 x_1, .int .i64 x_2, .slice s_3.1 s_3.2.1 s_3.2.2]] (M ++ [AObj.cells [.int .i64 x0_0, .int .i64 x0_1, .slice x0_2 x0_2n x0_2c] ⟨false, 0⟩])) fun r_4 =>
    (Option.bind (boolOf? (some r_4.1)) fun q_5 =>
    (if (!q_5) = true
    then (Option.bind (L.call 7 [] []) fun r_6 =>
      (Option.bind (boolOf? (some r_6.1)) fun q_7 =>
      some (.bool q_7, r_4.2)))
    else (Option.bind (sliceOf? (AMem.ld r_4.2 (List.length M) 2)) fun s_8 =>
      (if (decide ((Int.ofNat s_8.2.1) > 40)) = true
      then (Option.bind (L.call 7 [] []) fun r_9 =>
        (Option.bind (boolOf? (some r_9.1)) fun q_10 =>
        some (.bool q_10, r_4.2)))
      else (Option.bind (intOf? .i64 (AMem.ld r_4.2 (List.length M) 0)) fun x_11 =>
        (Option.bind (intOf? .i64 (AMem.ld r_4.2 (List.length M) 1)) fun x_12 =>
        (if x1 = true
        then P4_18 L x2 (List.length M) (IntKind.wrap .i64 ((IntKind.wrap .i64 (2 * x_11)) - 1)) (IntKind.wrap .i64 (2 * x_12)) r_4.2
        else P4_18 L x2 (List.length M) (IntKind.wrap .i64 (2 * x_11)) (IntKind.wrap .i64 (2 * x_12)) r_4.2))))))))))) := by
  subst hP4_18; kernel_rfl
theorem E4 (L : Rec) (x0_0 : Int) (x0_1 : Int) (x0_2 : Option Addr) (x0_2n : Nat) (x0_2c : Nat) (x1 : Bool) (x2 : Bool) (M : AMem) : enterF L a4 [.agg #[.int .i64 x0_0, .int .i64 x0_1, .slice x0_2 x0_2n x0_2c], .bool x1, .bool x2] M =
  (Option.bind (intOf? .i64 (AMem.ld (M ++ [AObj.cells [.int .i64 x0_0, .int .i64 x0_1, .slice x0_2 x0_2n x0_2c] ⟨false, 0⟩]) (List.length M) 0)) fun x_1 =>
    (Option.bind (intOf? .i64 (AMem.ld (M ++ [AObj.cells [.int .i64 x0_0, .int .i64 x0_1, .slice x0_2 x0_2n x0_2c] ⟨false, 0⟩]) (List.length M) 1)) fun x_2 =>
    (Option.bind (sliceOf? (AMem.ld (M ++ [AObj.cells [.int .i64 x0_0, .int .i64 x0_1, .slice x0_2 x0_2n x0_2c] ⟨false, 0⟩]) (List.length M) 2)) fun s_3 =>
    (Option.bind (L.call 6 [.agg #[.int .i64 x_1, .int .i64 x_2, .slice s_3.1 s_3.2.1 s_3.2.2]] (M ++ [AObj.cells [.int .i64 x0_0, .int .i64 x0_1, .slice x0_2 x0_2n x0_2c] ⟨false, 0⟩])) fun r_4 =>
    (Option.bind (boolOf? (some r_4.1)) fun q_5 =>
    (if (!q_5) = true
    then (Option.bind (L.call 7 [] []) fun r_6 =>
      (Option.bind (boolOf? (some r_6.1)) fun q_7 =>
      some (.bool q_7, r_4.2)))
    else (Option.bind (sliceOf? (AMem.ld r_4.2 (List.length M) 2)) fun s_8 =>
      (if (decide ((Int.ofNat s_8.2.1) > 40)) = true
      then (Option.bind (L.call 7 [] []) fun r_9 =>
        (Option.bind (boolOf? (some r_9.1)) fun q_10 =>
        some (.bool q_10, r_4.2)))
      else (Option.bind (intOf? .i64 (AMem.ld r_4.2 (List.length M) 0)) fun x_11 =>
        (Option.bind (intOf? .i64 (AMem.ld r_4.2 (List.length M) 1)) fun x_12 =>
        (if x1 = true
        then P4_18 L x2 (List.length M) (IntKind.wrap .i64 ((IntKind.wrap .i64 (2 * x_11)) - 1)) (IntKind.wrap .i64 (2 * x_12)) r_4.2
        else P4_18 L x2 (List.length M) (IntKind.wrap .i64 (2 * x_11)) (IntKind.wrap .i64 (2 * x_12)) r_4.2))))))))))) := QE4 L c4_18 P4_18 (Classical.choose_spec XP4_18) x0_0 x0_1 x0_2 x0_2n x0_2c x1 x2 M
end Go.Proofs.Ytncfdkmhpnopiaa
