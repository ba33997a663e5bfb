/- What the pieces of some functions come to. -/
import Derived.Test.YtkjgmcjdblhkeaaCode
set_option linter.unusedVariables false
set_option maxRecDepth 100000
namespace Go.Proofs.Ytkjgmcjdblhkeaa
open Go Go.Ax
/-! #### skylightlaw49.DiffTells -/
noncomputable def k3_14 (L : Rec) : KT := retK [.tmp 10]
def s3_14 (x2 : Option Addr) (x2n : Nat) (x2c : Nat) (x3 : Int) (x4 : Int) (x5 : Nat) (x6 : Nat) (x11 : Nat) (x12 : Bool) (x13 : Nat) (x14 : Bool) (M : AMem) : List Value := [junk, junk, .slice x2 x2n x2c, .int .i64 x3, .int .i64 x4, .pointer (some ⟨x5, 0, none⟩), .pointer (some ⟨x6, 0, none⟩), junk, junk, junk, junk, .pointer (some ⟨x11, 0, none⟩), .bool x12, .pointer (some ⟨x13, 0, none⟩), .bool x14, junk, junk, junk, junk, junk, junk, junk, junk, junk, junk, junk, junk, junk, junk, junk, junk, junk, junk, junk, junk, junk, junk, junk, junk, junk, junk, junk, junk, junk, junk, junk, junk, junk, junk, junk, junk, junk, junk, junk, junk, junk, junk, junk, junk, junk, junk, junk, junk, junk, junk, junk, junk, junk, junk, junk, junk, junk, junk, junk, junk, junk, junk, junk, junk, junk, junk, junk, junk, junk, junk, junk, junk, junk, junk, junk, junk, junk, junk, junk, junk, junk, junk, junk, junk, junk, junk, junk, junk, junk, junk, junk, junk, junk, junk, junk, junk, junk, junk, junk, junk, junk, junk, junk, junk, junk, junk, junk, junk, junk, junk, junk, junk, junk, junk, junk, junk, junk, junk, junk, junk, junk, junk, junk, junk, junk, junk, junk, junk, junk, junk, junk, junk, junk, junk, junk, junk, junk, junk, junk, junk, junk, junk, junk, junk, junk, junk, junk, junk, junk, junk, junk, junk, junk, junk, junk, junk, junk, junk, junk, junk, junk, junk, junk, junk, junk, junk, junk, junk]
theorem XP3_14 : ∃ P : Rec → (Option Addr) → Nat → Nat → Int → Int → Nat → Nat → Nat → Bool → Nat → Bool → AMem → Res, P = fun (L : Rec) (x2 : Option Addr) (x2n : Nat) (x2c : Nat) (x3 : Int) (x4 : Int) (x5 : Nat) (x6 : Nat) (x11 : Nat) (x12 : Bool) (x13 : Nat) (x14 : Bool) (M : AMem) => code L c3_14 (k3_14 L) (s3_14 x2 x2n x2c x3 x4 x5 x6 x11 x12 x13 x14 M) M := ⟨_, rfl⟩
noncomputable def P3_14 : Rec → (Option Addr) → Nat → Nat → Int → Int → Nat → Nat → Nat → Bool → Nat → Bool → AMem → Res := Classical.choose XP3_14
noncomputable def k3_28 (L : Rec) : KT := blockK 0 (seqK (code L (.clear [0, 1, 7, 8, 9, 10, 15, 16, 17, 18, 19, 20, 21, 22, 23, 24, 25, 26, 27, 28, 29, 30, 31, 32, 33, 34, 35, 36, 37, 38, 39, 40, 41, 42, 43, 44, 45, 46, 47, 48, 49, 50, 51, 52, 53, 54, 55, 56, 57, 58, 59, 60, 61, 62, 63, 64, 65, 66, 67, 68, 69, 70, 71, 72, 73, 74, 75, 76, 77, 78, 79, 80, 81, 82, 83, 84, 85, 86, 87, 88, 89, 90, 91, 92, 93, 94, 95, 96, 97, 98, 99, 100, 101, 102, 103, 104, 105, 106, 107, 108, 109, 110, 111, 112, 113, 114, 115, 116, 117, 118, 119, 120, 121, 122, 123, 124, 125, 126, 127, 128, 129, 130, 131, 132, 133, 134, 135, 136, 137, 138, 139, 140, 141, 142, 143, 144, 145, 146, 147, 148, 149, 150, 151, 152, 153, 154, 155, 156, 157, 158, 159, 160, 161, 162, 163, 164, 165, 166, 167, 168, 169, 170, 171, 172, 173, 174, 175, 176, 177, 178, 179, 180, 181, 182] c3_45) (retK [.tmp 10])) (retK [.tmp 10]))
def s3_28 (x2 : Option Addr) (x2n : Nat) (x2c : Nat) (x3 : Int) (x4 : Int) (x5 : Nat) (x6 : Nat) (x11 : Nat) (x12 : Bool) (x13 : Nat) (x14 : Bool) (x15 : Option Addr) (x15n : Nat) (x15c : Nat) (x16 : Option Addr) (x16n : Nat) (x16c : Nat) (x17 : Int) (M : AMem) : List Value := [junk, junk, .slice x2 x2n x2c, .int .i64 x3, .int .i64 x4, .pointer (some ⟨x5, 0, none⟩), .pointer (some ⟨x6, 0, none⟩), junk, junk, junk, junk, .pointer (some ⟨x11, 0, none⟩), .bool x12, .pointer (some ⟨x13, 0, none⟩), .bool x14, .slice x15 x15n x15c, .slice x16 x16n x16c, .int .i64 x17, junk, junk, junk, junk, junk, junk, junk, junk, junk, junk, junk, junk, junk, junk, junk, junk, junk, junk, junk, junk, junk, junk, junk, junk, junk, junk, junk, junk, junk, junk, junk, junk, junk, junk, junk, junk, junk, junk, junk, junk, junk, junk, junk, junk, junk, junk, junk, junk, junk, junk, junk, junk, junk, junk, junk, junk, junk, junk, junk, junk, junk, junk, junk, junk, junk, junk, junk, junk, junk, junk, junk, junk, junk, junk, junk, junk, junk, junk, junk, junk, junk, junk, junk, junk, junk, junk, junk, junk, junk, junk, junk, junk, junk, junk, junk, junk, junk, junk, junk, junk, junk, junk, junk, junk, junk, junk, junk, junk, junk, junk, junk, junk, junk, junk, junk, junk, junk, junk, junk, junk, junk, junk, junk, junk, junk, junk, junk, junk, junk, junk, junk, junk, junk, junk, junk, junk, junk, junk, junk, junk, junk, junk, junk, junk, junk, junk, junk, junk, junk, junk, junk, junk, junk, junk, junk, junk, junk, junk, junk, junk, junk, junk, junk, junk, junk]
theorem XP3_28 : ∃ P : Rec → (Option Addr) → Nat → Nat → Int → Int → Nat → Nat → Nat → Bool → Nat → Bool → (Option Addr) → Nat → Nat → (Option Addr) → Nat → Nat → Int → AMem → Res, P = fun (L : Rec) (x2 : Option Addr) (x2n : Nat) (x2c : Nat) (x3 : Int) (x4 : Int) (x5 : Nat) (x6 : Nat) (x11 : Nat) (x12 : Bool) (x13 : Nat) (x14 : Bool) (x15 : Option Addr) (x15n : Nat) (x15c : Nat) (x16 : Option Addr) (x16n : Nat) (x16c : Nat) (x17 : Int) (M : AMem) => L.loop b3_28 (k3_28 L) (s3_28 x2 x2n x2c x3 x4 x5 x6 x11 x12 x13 x14 x15 x15n x15c x16 x16n x16c x17 M) M := ⟨_, rfl⟩
noncomputable def P3_28 : Rec → (Option Addr) → Nat → Nat → Int → Int → Nat → Nat → Nat → Bool → Nat → Bool → (Option Addr) → Nat → Nat → (Option Addr) → Nat → Nat → Int → AMem → Res := Classical.choose XP3_28
noncomputable def k3_44 (L : Rec) : KT := postK [0, 1, 7, 8, 9, 10, 18, 19, 20, 21, 22, 23, 24, 25, 26, 27, 28, 29, 30, 31, 32, 33, 34, 35, 36, 37, 38, 39, 40, 41, 42, 43, 44, 45, 46, 47, 48, 49, 50, 51, 52, 53, 54, 55, 56, 57, 58, 59, 60, 61, 62, 63, 64, 65, 66, 67, 68, 69, 70, 71, 72, 73, 74, 75, 76, 77, 78, 79, 80, 81, 82, 83, 84, 85, 86, 87, 88, 89, 90, 91, 92, 93, 94, 95, 96, 97, 98, 99, 100, 101, 102, 103, 104, 105, 106, 107, 108, 109, 110, 111, 112, 113, 114, 115, 116, 117, 118, 119, 120, 121, 122, 123, 124, 125, 126, 127, 128, 129, 130, 131, 132, 133, 134, 135, 136, 137, 138, 139, 140, 141, 142, 143, 144, 145, 146, 147, 148, 149, 150, 151, 152, 153, 154, 155, 156, 157, 158, 159, 160, 161, 162, 163, 164, 165, 166, 167, 168, 169, 170, 171, 172, 173, 174, 175, 176, 177, 178, 179, 180, 181, 182] (loopK L b3_28 (blockK 0 (seqK (code L (.clear [0, 1, 7, 8, 9, 10, 15, 16, 17, 18, 19, 20, 21, 22, 23, 24, 25, 26, 27, 28, 29, 30, 31, 32, 33, 34, 35, 36, 37, 38, 39, 40, 41, 42, 43, 44, 45, 46, 47, 48, 49, 50, 51, 52, 53, 54, 55, 56, 57, 58, 59, 60, 61, 62, 63, 64, 65, 66, 67, 68, 69, 70, 71, 72, 73, 74, 75, 76, 77, 78, 79, 80, 81, 82, 83, 84, 85, 86, 87, 88, 89, 90, 91, 92, 93, 94, 95, 96, 97, 98, 99, 100, 101, 102, 103, 104, 105, 106, 107, 108, 109, 110, 111, 112, 113, 114, 115, 116, 117, 118, 119, 120, 121, 122, 123, 124, 125, 126, 127, 128, 129, 130, 131, 132, 133, 134, 135, 136, 137, 138, 139, 140, 141, 142, 143, 144, 145, 146, 147, 148, 149, 150, 151, 152, 153, 154, 155, 156, 157, 158, 159, 160, 161, 162, 163, 164, 165, 166, 167, 168, 169, 170, 171, 172, 173, 174, 175, 176, 177, 178, 179, 180, 181, 182] c3_45) (retK [.tmp 10])) (retK [.tmp 10]))))
def s3_44 (x2 : Option Addr) (x2n : Nat) (x2c : Nat) (x3 : Int) (x4 : Int) (x5 : Nat) (x6 : Nat) (x11 : Nat) (x12 : Bool) (x13 : Nat) (x14 : Bool) (x15 : Option Addr) (x15n : Nat) (x15c : Nat) (x16 : Option Addr) (x16n : Nat) (x16c : Nat) (x17 : Int) (M : AMem) : List Value := [junk, junk, .slice x2 x2n x2c, .int .i64 x3, .int .i64 x4, .pointer (some ⟨x5, 0, none⟩), .pointer (some ⟨x6, 0, none⟩), junk, junk, junk, junk, .pointer (some ⟨x11, 0, none⟩), .bool x12, .pointer (some ⟨x13, 0, none⟩), .bool x14, .slice x15 x15n x15c, .slice x16 x16n x16c, .int .i64 x17, junk, junk, junk, junk, junk, junk, junk, junk, junk, junk, junk, junk, junk, junk, junk, junk, junk, junk, junk, junk, junk, junk, junk, junk, junk, junk, junk, junk, junk, junk, junk, junk, junk, junk, junk, junk, junk, junk, junk, junk, junk, junk, junk, junk, junk, junk, junk, junk, junk, junk, junk, junk, junk, junk, junk, junk, junk, junk, junk, junk, junk, junk, junk, junk, junk, junk, junk, junk, junk, junk, junk, junk, junk, junk, junk, junk, junk, junk, junk, junk, junk, junk, junk, junk, junk, junk, junk, junk, junk, junk, junk, junk, junk, junk, junk, junk, junk, junk, junk, junk, junk, junk, junk, junk, junk, junk, junk, junk, junk, junk, junk, junk, junk, junk, junk, junk, junk, junk, junk, junk, junk, junk, junk, junk, junk, junk, junk, junk, junk, junk, junk, junk, junk, junk, junk, junk, junk, junk, junk, junk, junk, junk, junk, junk, junk, junk, junk, junk, junk, junk, junk, junk, junk, junk, junk, junk, junk, junk, junk, junk, junk, junk, junk, junk, junk]
theorem XP3_44 : ∃ P : Rec → (Option Addr) → Nat → Nat → Int → Int → Nat → Nat → Nat → Bool → Nat → Bool → (Option Addr) → Nat → Nat → (Option Addr) → Nat → Nat → Int → AMem → Res, P = fun (L : Rec) (x2 : Option Addr) (x2n : Nat) (x2c : Nat) (x3 : Int) (x4 : Int) (x5 : Nat) (x6 : Nat) (x11 : Nat) (x12 : Bool) (x13 : Nat) (x14 : Bool) (x15 : Option Addr) (x15n : Nat) (x15c : Nat) (x16 : Option Addr) (x16n : Nat) (x16c : Nat) (x17 : Int) (M : AMem) => code L c3_44 (k3_44 L) (s3_44 x2 x2n x2c x3 x4 x5 x6 x11 x12 x13 x14 x15 x15n x15c x16 x16n x16c x17 M) M := ⟨_, rfl⟩
noncomputable def P3_44 : Rec → (Option Addr) → Nat → Nat → Int → Int → Nat → Nat → Nat → Bool → Nat → Bool → (Option Addr) → Nat → Nat → (Option Addr) → Nat → Nat → Int → AMem → Res := Classical.choose XP3_44
noncomputable def k3_45 (L : Rec) : KT := retK [.tmp 10]
def s3_45 (x2 : Option Addr) (x2n : Nat) (x2c : Nat) (x3 : Int) (x4 : Int) (x5 : Nat) (x6 : Nat) (x11 : Nat) (x12 : Bool) (x13 : Nat) (x14 : Bool) (M : AMem) : List Value := [junk, junk, .slice x2 x2n x2c, .int .i64 x3, .int .i64 x4, .pointer (some ⟨x5, 0, none⟩), .pointer (some ⟨x6, 0, none⟩), junk, junk, junk, junk, .pointer (some ⟨x11, 0, none⟩), .bool x12, .pointer (some ⟨x13, 0, none⟩), .bool x14, junk, junk, junk, junk, junk, junk, junk, junk, junk, junk, junk, junk, junk, junk, junk, junk, junk, junk, junk, junk, junk, junk, junk, junk, junk, junk, junk, junk, junk, junk, junk, junk, junk, junk, junk, junk, junk, junk, junk, junk, junk, junk, junk, junk, junk, junk, junk, junk, junk, junk, junk, junk, junk, junk, junk, junk, junk, junk, junk, junk, junk, junk, junk, junk, junk, junk, junk, junk, junk, junk, junk, junk, junk, junk, junk, junk, junk, junk, junk, junk, junk, junk, junk, junk, junk, junk, junk, junk, junk, junk, junk, junk, junk, junk, junk, junk, junk, junk, junk, junk, junk, junk, junk, junk, junk, junk, junk, junk, junk, junk, junk, junk, junk, junk, junk, junk, junk, junk, junk, junk, junk, junk, junk, junk, junk, junk, junk, junk, junk, junk, junk, junk, junk, junk, junk, junk, junk, junk, junk, junk, junk, junk, junk, junk, junk, junk, junk, junk, junk, junk, junk, junk, junk, junk, junk, junk, junk, junk, junk, junk, junk, junk, junk, junk, junk, junk, junk, junk]
theorem XP3_45 : ∃ P : Rec → (Option Addr) → Nat → Nat → Int → Int → Nat → Nat → Nat → Bool → Nat → Bool → AMem → Res, P = fun (L : Rec) (x2 : Option Addr) (x2n : Nat) (x2c : Nat) (x3 : Int) (x4 : Int) (x5 : Nat) (x6 : Nat) (x11 : Nat) (x12 : Bool) (x13 : Nat) (x14 : Bool) (M : AMem) => code L c3_45 (k3_45 L) (s3_45 x2 x2n x2c x3 x4 x5 x6 x11 x12 x13 x14 M) M := ⟨_, rfl⟩
noncomputable def P3_45 : Rec → (Option Addr) → Nat → Nat → Int → Int → Nat → Nat → Nat → Bool → Nat → Bool → AMem → Res := Classical.choose XP3_45
noncomputable def k3_51 (L : Rec) : KT := retK [.tmp 10]
def s3_51 (x3 : Int) (x4 : Int) (x5 : Nat) (x6 : Nat) (x11 : Nat) (x12 : Bool) (x13 : Nat) (x14 : Bool) (x18 : Nat) (x19 : Bool) (x20 : Nat) (x21 : Bool) (x22 : Nat) (x23 : Bool) (M : AMem) : List Value := [junk, junk, junk, .int .i64 x3, .int .i64 x4, .pointer (some ⟨x5, 0, none⟩), .pointer (some ⟨x6, 0, none⟩), junk, junk, junk, junk, .pointer (some ⟨x11, 0, none⟩), .bool x12, .pointer (some ⟨x13, 0, none⟩), .bool x14, junk, junk, junk, .pointer (some ⟨x18, 0, none⟩), .bool x19, .pointer (some ⟨x20, 0, none⟩), .bool x21, .pointer (some ⟨x22, 0, none⟩), .bool x23, junk, junk, junk, junk, junk, junk, junk, junk, junk, junk, junk, junk, junk, junk, junk, junk, junk, junk, junk, junk, junk, junk, junk, junk, junk, junk, junk, junk, junk, junk, junk, junk, junk, junk, junk, junk, junk, junk, junk, junk, junk, junk, junk, junk, junk, junk, junk, junk, junk, junk, junk, junk, junk, junk, junk, junk, junk, junk, junk, junk, junk, junk, junk, junk, junk, junk, junk, junk, junk, junk, junk, junk, junk, junk, junk, junk, junk, junk, junk, junk, junk, junk, junk, junk, junk, junk, junk, junk, junk, junk, junk, junk, junk, junk, junk, junk, junk, junk, junk, junk, junk, junk, junk, junk, junk, junk, junk, junk, junk, junk, junk, junk, junk, junk, junk, junk, junk, junk, junk, junk, junk, junk, junk, junk, junk, junk, junk, junk, junk, junk, junk, junk, junk, junk, junk, junk, junk, junk, junk, junk, junk, junk, junk, junk, junk, junk, junk, junk, junk, junk, junk, junk, junk, junk, junk, junk, junk, junk, junk]
theorem XP3_51 : ∃ P : Rec → Int → Int → Nat → Nat → Nat → Bool → Nat → Bool → Nat → Bool → Nat → Bool → Nat → Bool → AMem → Res, P = fun (L : Rec) (x3 : Int) (x4 : Int) (x5 : Nat) (x6 : Nat) (x11 : Nat) (x12 : Bool) (x13 : Nat) (x14 : Bool) (x18 : Nat) (x19 : Bool) (x20 : Nat) (x21 : Bool) (x22 : Nat) (x23 : Bool) (M : AMem) => code L c3_51 (k3_51 L) (s3_51 x3 x4 x5 x6 x11 x12 x13 x14 x18 x19 x20 x21 x22 x23 M) M := ⟨_, rfl⟩
noncomputable def P3_51 : Rec → Int → Int → Nat → Nat → Nat → Bool → Nat → Bool → Nat → Bool → Nat → Bool → Nat → Bool → AMem → Res := Classical.choose XP3_51
theorem QP3_14_eq (L : Rec) (b3_28 c3_45 : ACode) (P3_14 : Rec → (Option Addr) → Nat → Nat → Int → Int → Nat → Nat → Nat → Bool → Nat → Bool → AMem → Res) (hP3_14 : P3_14 = fun (L : Rec) (x2 : Option Addr) (x2n : Nat) (x2c : Nat) (x3 : Int) (x4 : Int) (x5 : Nat) (x6 : Nat) (x11 : Nat) (x12 : Bool) (x13 : Nat) (x14 : Bool) (M : AMem) => code L (.seq (.draw [] 0 o3_15 [(2, 1), (5, 1), (5, 3), (5, 4), (6, 1), (6, 3), (6, 4)]) (.seq (.seq (.ops o3_18) (.cond (.tmp 68) (.seq (.ops o3_21) (.ret)) (.skip))) (.seq (.seq (.ops o3_26) (.block 0 (.clear [0, 1, 7, 8, 9, 10, 18, 19, 20, 21, 22, 23, 24, 25, 26, 27, 28, 29, 30, 31, 32, 33, 34, 35, 36, 37, 38, 39, 40, 41, 42, 43, 44, 45, 46, 47, 48, 49, 50, 51, 52, 53, 54, 55, 56, 57, 58, 59, 60, 61, 62, 63, 64, 65, 66, 67, 68, 69, 70, 71, 72, 73, 74, 75, 76, 77, 78, 79, 80, 81, 82, 83, 84, 85, 86, 87, 88, 89, 90, 91, 92, 93, 94, 95, 96, 97, 98, 99, 100, 101, 102, 103, 104, 105, 106, 107, 108, 109, 110, 111, 112, 113, 114, 115, 116, 117, 118, 119, 120, 121, 122, 123, 124, 125, 126, 127, 128, 129, 130, 131, 132, 133, 134, 135, 136, 137, 138, 139, 140, 141, 142, 143, 144, 145, 146, 147, 148, 149, 150, 151, 152, 153, 154, 155, 156, 157, 158, 159, 160, 161, 162, 163, 164, 165, 166, 167, 168, 169, 170, 171, 172, 173, 174, 175, 176, 177, 178, 179, 180, 181, 182] (.loop b3_28)))) (.clear [0, 1, 7, 8, 9, 10, 15, 16, 17, 18, 19, 20, 21, 22, 23, 24, 25, 26, 27, 28, 29, 30, 31, 32, 33, 34, 35, 36, 37, 38, 39, 40, 41, 42, 43, 44, 45, 46, 47, 48, 49, 50, 51, 52, 53, 54, 55, 56, 57, 58, 59, 60, 61, 62, 63, 64, 65, 66, 67, 68, 69, 70, 71, 72, 73, 74, 75, 76, 77, 78, 79, 80, 81, 82, 83, 84, 85, 86, 87, 88, 89, 90, 91, 92, 93, 94, 95, 96, 97, 98, 99, 100, 101, 102, 103, 104, 105, 106, 107, 108, 109, 110, 111, 112, 113, 114, 115, 116, 117, 118, 119, 120, 121, 122, 123, 124, 125, 126, 127, 128, 129, 130, 131, 132, 133, 134, 135, 136, 137, 138, 139, 140, 141, 142, 143, 144, 145, 146, 147, 148, 149, 150, 151, 152, 153, 154, 155, 156, 157, 158, 159, 160, 161, 162, 163, 164, 165, 166, 167, 168, 169, 170, 171, 172, 173, 174, 175, 176, 177, 178, 179, 180, 181, 182] c3_45)))) (retK [.tmp 10]) (s3_14 x2 x2n x2c x3 x4 x5 x6 x11 x12 x13 x14 M) M) (P3_28 : Rec → (Option Addr) → Nat → Nat → Int → Int → Nat → Nat → Nat → Bool → Nat → Bool → (Option Addr) → Nat → Nat → (Option Addr) → Nat → Nat → Int → AMem → Res) (hP3_28 : P3_28 = fun (L : Rec) (x2 : Option Addr) (x2n : Nat) (x2c : Nat) (x3 : Int) (x4 : Int) (x5 : Nat) (x6 : Nat) (x11 : Nat) (x12 : Bool) (x13 : Nat) (x14 : Bool) (x15 : Option Addr) (x15n : Nat) (x15c : Nat) (x16 : Option Addr) (x16n : Nat) (x16c : Nat) (x17 : Int) (M : AMem) => L.loop b3_28 (blockK 0 (seqK (code L (.clear [0, 1, 7, 8, 9, 10, 15, 16, 17, 18, 19, 20, 21, 22, 23, 24, 25, 26, 27, 28, 29, 30, 31, 32, 33, 34, 35, 36, 37, 38, 39, 40, 41, 42, 43, 44, 45, 46, 47, 48, 49, 50, 51, 52, 53, 54, 55, 56, 57, 58, 59, 60, 61, 62, 63, 64, 65, 66, 67, 68, 69, 70, 71, 72, 73, 74, 75, 76, 77, 78, 79, 80, 81, 82, 83, 84, 85, 86, 87, 88, 89, 90, 91, 92, 93, 94, 95, 96, 97, 98, 99, 100, 101, 102, 103, 104, 105, 106, 107, 108, 109, 110, 111, 112, 113, 114, 115, 116, 117, 118, 119, 120, 121, 122, 123, 124, 125, 126, 127, 128, 129, 130, 131, 132, 133, 134, 135, 136, 137, 138, 139, 140, 141, 142, 143, 144, 145, 146, 147, 148, 149, 150, 151, 152, 153, 154, 155, 156, 157, 158, 159, 160, 161, 162, 163, 164, 165, 166, 167, 168, 169, 170, 171, 172, 173, 174, 175, 176, 177, 178, 179, 180, 181, 182] c3_45) (retK [.tmp 10])) (retK [.tmp 10]))) (s3_28 x2 x2n x2c x3 x4 x5 x6 x11 x12 x13 x14 x15 x15n x15c x16 x16n x16c x17 M) M) (x2 : Option Addr) (x2n : Nat) (x2c : Nat) (x3 : Int) (x4 : Int) (x5 : Nat) (x6 : Nat) (x11 : Nat) (x12 : Bool) (x13 : Nat) (x14 : Bool) (M : AMem) : P3_14 L x2 x2n x2c x3 x4 x5 x6 x11 x12 x13 x14 M =
  (Option.bind (intOf? .i64 (AMem.ld M x5 0)) fun x_1 =>
    (Option.bind (intOf? .i64 (AMem.ld M x5 1)) fun x_2 =>
    (Option.bind (sliceOf? (AMem.ld M x5 2)) fun s_3 =>
    (Option.bind (L.call 7 [.agg #[.int .i64 x_1, .int .i64 x_2, .slice s_3.1 s_3.2.1 s_3.2.2]] M) fun r_4 =>
    (Option.bind (aggOf? 3 r_4.1) fun cs_5 =>
    (Option.bind (intOf? .i64 (cs_5[0]?)) fun x_6 =>
    (Option.bind (intOf? .i64 (cs_5[1]?)) fun x_7 =>
    (Option.bind (sliceOf? (cs_5[2]?)) fun s_8 =>
    (Option.bind (intOf? .i64 (AMem.ld r_4.2 x6 0)) fun x_9 =>
    (Option.bind (intOf? .i64 (AMem.ld r_4.2 x6 1)) fun x_10 =>
    (Option.bind (sliceOf? (AMem.ld r_4.2 x6 2)) fun s_11 =>
    (Option.bind (L.call 7 [.agg #[.int .i64 x_9, .int .i64 x_10, .slice s_11.1 s_11.2.1 s_11.2.2]] r_4.2) fun r_12 =>
    (Option.bind (aggOf? 3 r_12.1) fun cs_13 =>
    (Option.bind (intOf? .i64 (cs_13[0]?)) fun x_14 =>
    (Option.bind (intOf? .i64 (cs_13[1]?)) fun x_15 =>
    (Option.bind (sliceOf? (cs_13[2]?)) fun s_16 =>
    (Option.bind (L.call 9 [.agg #[.int .i64 x_6, .int .i64 x_7, .slice s_8.1 s_8.2.1 s_8.2.2], .agg #[.int .i64 x_14, .int .i64 x_15, .slice s_16.1 s_16.2.1 s_16.2.2]] r_12.2) fun r_17 =>
    (Option.bind (sliceOf? (some r_17.1)) fun s_18 =>
    (Option.bind (intOf? .i64 (AMem.ld r_17.2 x5 0)) fun x_19 =>
    (Option.bind (intOf? .i64 (AMem.ld r_17.2 x5 1)) fun x_20 =>
    (Option.bind (sliceOf? (AMem.ld r_17.2 x5 2)) fun s_21 =>
    (Option.bind (intOf? .i64 (AMem.ld r_17.2 x6 0)) fun x_22 =>
    (Option.bind (intOf? .i64 (AMem.ld r_17.2 x6 1)) fun x_23 =>
    (Option.bind (sliceOf? (AMem.ld r_17.2 x6 2)) fun s_24 =>
    (Option.bind (L.call 10 [.agg #[.int .i64 x_19, .int .i64 x_20, .slice s_21.1 s_21.2.1 s_21.2.2], .agg #[.int .i64 x_22, .int .i64 x_23, .slice s_24.1 s_24.2.1 s_24.2.2]] r_17.2) fun r_25 =>
    (Option.bind (sliceOf? (some r_25.1)) fun s_26 =>
    (if chkOk [(2, 1), (5, 1), (5, 3), (5, 4), (6, 1), (6, 3), (6, 4)] [(6, x6), (5, x5), (2, x6)] [(4, (r_12.2, r_17.2)), (3, (r_4.2, r_12.2)), (1, (M, r_4.2))] = true
    then (if ((Int.ofNat s_18.2.1) != (Int.ofNat s_26.2.1)) = true
      then some (.bool false, r_25.2)
      else P3_28 L x2 x2n x2c x3 x4 x5 x6 x11 x12 x13 x14 s_18.1 s_18.2.1 s_18.2.2 s_26.1 s_26.2.1 s_26.2.2 0 r_25.2)
    else none))))))))))))))))))))))))))) := by
  subst hP3_14; subst hP3_28; kernel_rfl
theorem P3_14_eq (L : Rec) (x2 : Option Addr) (x2n : Nat) (x2c : Nat) (x3 : Int) (x4 : Int) (x5 : Nat) (x6 : Nat) (x11 : Nat) (x12 : Bool) (x13 : Nat) (x14 : Bool) (M : AMem) : P3_14 L x2 x2n x2c x3 x4 x5 x6 x11 x12 x13 x14 M =
  (Option.bind (intOf? .i64 (AMem.ld M x5 0)) fun x_1 =>
    (Option.bind (intOf? .i64 (AMem.ld M x5 1)) fun x_2 =>
    (Option.bind (sliceOf? (AMem.ld M x5 2)) fun s_3 =>
    (Option.bind (L.call 7 [.agg #[.int .i64 x_1, .int .i64 x_2, .slice s_3.1 s_3.2.1 s_3.2.2]] M) fun r_4 =>
    (Option.bind (aggOf? 3 r_4.1) fun cs_5 =>
    (Option.bind (intOf? .i64 (cs_5[0]?)) fun x_6 =>
    (Option.bind (intOf? .i64 (cs_5[1]?)) fun x_7 =>
    (Option.bind (sliceOf? (cs_5[2]?)) fun s_8 =>
    (Option.bind (intOf? .i64 (AMem.ld r_4.2 x6 0)) fun x_9 =>
    (Option.bind (intOf? .i64 (AMem.ld r_4.2 x6 1)) fun x_10 =>
    (Option.bind (sliceOf? (AMem.ld r_4.2 x6 2)) fun s_11 =>
    (Option.bind (L.call 7 [.agg #[.int .i64 x_9, .int .i64 x_10, .slice s_11.1 s_11.2.1 s_11.2.2]] r_4.2) fun r_12 =>
    (Option.bind (aggOf? 3 r_12.1) fun cs_13 =>
    (Option.bind (intOf? .i64 (cs_13[0]?)) fun x_14 =>
    (Option.bind (intOf? .i64 (cs_13[1]?)) fun x_15 =>
    (Option.bind (sliceOf? (cs_13[2]?)) fun s_16 =>
    (Option.bind (L.call 9 [.agg #[.int .i64 x_6, .int .i64 x_7, .slice s_8.1 s_8.2.1 s_8.2.2], .agg #[.int .i64 x_14, .int .i64 x_15, .slice s_16.1 s_16.2.1 s_16.2.2]] r_12.2) fun r_17 =>
    (Option.bind (sliceOf? (some r_17.1)) fun s_18 =>
    (Option.bind (intOf? .i64 (AMem.ld r_17.2 x5 0)) fun x_19 =>
    (Option.bind (intOf? .i64 (AMem.ld r_17.2 x5 1)) fun x_20 =>
    (Option.bind (sliceOf? (AMem.ld r_17.2 x5 2)) fun s_21 =>
    (Option.bind (intOf? .i64 (AMem.ld r_17.2 x6 0)) fun x_22 =>
    (Option.bind (intOf? .i64 (AMem.ld r_17.2 x6 1)) fun x_23 =>
    (Option.bind (sliceOf? (AMem.ld r_17.2 x6 2)) fun s_24 =>
    (Option.bind (L.call 10 [.agg #[.int .i64 x_19, .int .i64 x_20, .slice s_21.1 s_21.2.1 s_21.2.2], .agg #[.int .i64 x_22, .int .i64 x_23, .slice s_24.1 s_24.2.1 s_24.2.2]] r_17.2) fun r_25 =>
    (Option.bind (sliceOf? (some r_25.1)) fun s_26 =>
    (if chkOk [(2, 1), (5, 1), (5, 3), (5, 4), (6, 1), (6, 3), (6, 4)] [(6, x6), (5, x5), (2, x6)] [(4, (r_12.2, r_17.2)), (3, (r_4.2, r_12.2)), (1, (M, r_4.2))] = true
    then (if ((Int.ofNat s_18.2.1) != (Int.ofNat s_26.2.1)) = true
      then some (.bool false, r_25.2)
      else P3_28 L x2 x2n x2c x3 x4 x5 x6 x11 x12 x13 x14 s_18.1 s_18.2.1 s_18.2.2 s_26.1 s_26.2.1 s_26.2.2 0 r_25.2)
    else none))))))))))))))))))))))))))) := QP3_14_eq L b3_28 c3_45 P3_14 (Classical.choose_spec XP3_14) P3_28 (Classical.choose_spec XP3_28) x2 x2n x2c x3 x4 x5 x6 x11 x12 x13 x14 M
theorem QP3_28_eq (L : Rec) (b3_28 c3_44 c3_45 : ACode) (hb : ∀ K t A, L.loop b3_28 K t A = code L (.post (.seq (.seq (.ops o3_31) (.cond (.tmp 72) (.skip) (.exit 0))) (.seq (.block 1 (.seq (.draw [] 0 o3_38 []) (.cond (.tmp 83) (.seq (.ops o3_41) (.ret)) (.skip)))) (.clear [0, 1, 7, 8, 9, 10, 18, 19, 20, 21, 22, 23, 24, 25, 26, 27, 28, 29, 30, 31, 32, 33, 34, 35, 36, 37, 38, 39, 40, 41, 42, 43, 44, 45, 46, 47, 48, 49, 50, 51, 52, 53, 54, 55, 56, 57, 58, 59, 60, 61, 62, 63, 64, 65, 66, 67, 68, 69, 70, 71, 72, 73, 74, 75, 76, 77, 78, 79, 80, 81, 82, 83, 84, 85, 86, 87, 88, 89, 90, 91, 92, 93, 94, 95, 96, 97, 98, 99, 100, 101, 102, 103, 104, 105, 106, 107, 108, 109, 110, 111, 112, 113, 114, 115, 116, 117, 118, 119, 120, 121, 122, 123, 124, 125, 126, 127, 128, 129, 130, 131, 132, 133, 134, 135, 136, 137, 138, 139, 140, 141, 142, 143, 144, 145, 146, 147, 148, 149, 150, 151, 152, 153, 154, 155, 156, 157, 158, 159, 160, 161, 162, 163, 164, 165, 166, 167, 168, 169, 170, 171, 172, 173, 174, 175, 176, 177, 178, 179, 180, 181, 182] c3_44))) [0, 1, 7, 8, 9, 10, 18, 19, 20, 21, 22, 23, 24, 25, 26, 27, 28, 29, 30, 31, 32, 33, 34, 35, 36, 37, 38, 39, 40, 41, 42, 43, 44, 45, 46, 47, 48, 49, 50, 51, 52, 53, 54, 55, 56, 57, 58, 59, 60, 61, 62, 63, 64, 65, 66, 67, 68, 69, 70, 71, 72, 73, 74, 75, 76, 77, 78, 79, 80, 81, 82, 83, 84, 85, 86, 87, 88, 89, 90, 91, 92, 93, 94, 95, 96, 97, 98, 99, 100, 101, 102, 103, 104, 105, 106, 107, 108, 109, 110, 111, 112, 113, 114, 115, 116, 117, 118, 119, 120, 121, 122, 123, 124, 125, 126, 127, 128, 129, 130, 131, 132, 133, 134, 135, 136, 137, 138, 139, 140, 141, 142, 143, 144, 145, 146, 147, 148, 149, 150, 151, 152, 153, 154, 155, 156, 157, 158, 159, 160, 161, 162, 163, 164, 165, 166, 167, 168, 169, 170, 171, 172, 173, 174, 175, 176, 177, 178, 179, 180, 181, 182]) (loopK L b3_28 K) t A) (P3_28 : Rec → (Option Addr) → Nat → Nat → Int → Int → Nat → Nat → Nat → Bool → Nat → Bool → (Option Addr) → Nat → Nat → (Option Addr) → Nat → Nat → Int → AMem → Res) (hP3_28 : P3_28 = fun (L : Rec) (x2 : Option Addr) (x2n : Nat) (x2c : Nat) (x3 : Int) (x4 : Int) (x5 : Nat) (x6 : Nat) (x11 : Nat) (x12 : Bool) (x13 : Nat) (x14 : Bool) (x15 : Option Addr) (x15n : Nat) (x15c : Nat) (x16 : Option Addr) (x16n : Nat) (x16c : Nat) (x17 : Int) (M : AMem) => L.loop b3_28 (blockK 0 (seqK (code L (.clear [0, 1, 7, 8, 9, 10, 15, 16, 17, 18, 19, 20, 21, 22, 23, 24, 25, 26, 27, 28, 29, 30, 31, 32, 33, 34, 35, 36, 37, 38, 39, 40, 41, 42, 43, 44, 45, 46, 47, 48, 49, 50, 51, 52, 53, 54, 55, 56, 57, 58, 59, 60, 61, 62, 63, 64, 65, 66, 67, 68, 69, 70, 71, 72, 73, 74, 75, 76, 77, 78, 79, 80, 81, 82, 83, 84, 85, 86, 87, 88, 89, 90, 91, 92, 93, 94, 95, 96, 97, 98, 99, 100, 101, 102, 103, 104, 105, 106, 107, 108, 109, 110, 111, 112, 113, 114, 115, 116, 117, 118, 119, 120, 121, 122, 123, 124, 125, 126, 127, 128, 129, 130, 131, 132, 133, 134, 135, 136, 137, 138, 139, 140, 141, 142, 143, 144, 145, 146, 147, 148, 149, 150, 151, 152, 153, 154, 155, 156, 157, 158, 159, 160, 161, 162, 163, 164, 165, 166, 167, 168, 169, 170, 171, 172, 173, 174, 175, 176, 177, 178, 179, 180, 181, 182] c3_45) (retK [.tmp 10])) (retK [.tmp 10]))) (s3_28 x2 x2n x2c x3 x4 x5 x6 x11 x12 x13 x14 x15 x15n x15c x16 x16n x16c x17 M) M) (P3_44 : Rec → (Option Addr) → Nat → Nat → Int → Int → Nat → Nat → Nat → Bool → Nat → Bool → (Option Addr) → Nat → Nat → (Option Addr) → Nat → Nat → Int → AMem → Res) (hP3_44 : P3_44 = fun (L : Rec) (x2 : Option Addr) (x2n : Nat) (x2c : Nat) (x3 : Int) (x4 : Int) (x5 : Nat) (x6 : Nat) (x11 : Nat) (x12 : Bool) (x13 : Nat) (x14 : Bool) (x15 : Option Addr) (x15n : Nat) (x15c : Nat) (x16 : Option Addr) (x16n : Nat) (x16c : Nat) (x17 : Int) (M : AMem) => code L c3_44 (postK [0, 1, 7, 8, 9, 10, 18, 19, 20, 21, 22, 23, 24, 25, 26, 27, 28, 29, 30, 31, 32, 33, 34, 35, 36, 37, 38, 39, 40, 41, 42, 43, 44, 45, 46, 47, 48, 49, 50, 51, 52, 53, 54, 55, 56, 57, 58, 59, 60, 61, 62, 63, 64, 65, 66, 67, 68, 69, 70, 71, 72, 73, 74, 75, 76, 77, 78, 79, 80, 81, 82, 83, 84, 85, 86, 87, 88, 89, 90, 91, 92, 93, 94, 95, 96, 97, 98, 99, 100, 101, 102, 103, 104, 105, 106, 107, 108, 109, 110, 111, 112, 113, 114, 115, 116, 117, 118, 119, 120, 121, 122, 123, 124, 125, 126, 127, 128, 129, 130, 131, 132, 133, 134, 135, 136, 137, 138, 139, 140, 141, 142, 143, 144, 145, 146, 147, 148, 149, 150, 151, 152, 153, 154, 155, 156, 157, 158, 159, 160, 161, 162, 163, 164, 165, 166, 167, 168, 169, 170, 171, 172, 173, 174, 175, 176, 177, 178, 179, 180, 181, 182] (loopK L b3_28 (blockK 0 (seqK (code L (.clear [0, 1, 7, 8, 9, 10, 15, 16, 17, 18, 19, 20, 21, 22, 23, 24, 25, 26, 27, 28, 29, 30, 31, 32, 33, 34, 35, 36, 37, 38, 39, 40, 41, 42, 43, 44, 45, 46, 47, 48, 49, 50, 51, 52, 53, 54, 55, 56, 57, 58, 59, 60, 61, 62, 63, 64, 65, 66, 67, 68, 69, 70, 71, 72, 73, 74, 75, 76, 77, 78, 79, 80, 81, 82, 83, 84, 85, 86, 87, 88, 89, 90, 91, 92, 93, 94, 95, 96, 97, 98, 99, 100, 101, 102, 103, 104, 105, 106, 107, 108, 109, 110, 111, 112, 113, 114, 115, 116, 117, 118, 119, 120, 121, 122, 123, 124, 125, 126, 127, 128, 129, 130, 131, 132, 133, 134, 135, 136, 137, 138, 139, 140, 141, 142, 143, 144, 145, 146, 147, 148, 149, 150, 151, 152, 153, 154, 155, 156, 157, 158, 159, 160, 161, 162, 163, 164, 165, 166, 167, 168, 169, 170, 171, 172, 173, 174, 175, 176, 177, 178, 179, 180, 181, 182] c3_45) (retK [.tmp 10])) (retK [.tmp 10]))))) (s3_44 x2 x2n x2c x3 x4 x5 x6 x11 x12 x13 x14 x15 x15n x15c x16 x16n x16c x17 M) M) (P3_45 : Rec → (Option Addr) → Nat → Nat → Int → Int → Nat → Nat → Nat → Bool → Nat → Bool → AMem → Res) (hP3_45 : P3_45 = fun (L : Rec) (x2 : Option Addr) (x2n : Nat) (x2c : Nat) (x3 : Int) (x4 : Int) (x5 : Nat) (x6 : Nat) (x11 : Nat) (x12 : Bool) (x13 : Nat) (x14 : Bool) (M : AMem) => code L c3_45 (retK [.tmp 10]) (s3_45 x2 x2n x2c x3 x4 x5 x6 x11 x12 x13 x14 M) M) (x2 : Option Addr) (x2n : Nat) (x2c : Nat) (x3 : Int) (x4 : Int) (x5 : Nat) (x6 : Nat) (x11 : Nat) (x12 : Bool) (x13 : Nat) (x14 : Bool) (x15 : Option Addr) (x15n : Nat) (x15c : Nat) (x16 : Option Addr) (x16n : Nat) (x16c : Nat) (x17 : Int) (M : AMem) : P3_28 L x2 x2n x2c x3 x4 x5 x6 x11 x12 x13 x14 x15 x15n x15c x16 x16n x16c x17 M =
  (if (decide (x17 < (Int.ofNat x15n))) = true
    then (match x15 with
      | some a_1 => (if (0 : Int) ≤ x17 ∧ x17 < (Int.ofNat x15n)
        then (Option.bind (intOf? .i64 (AMem.ld M a_1.block (a_1.off + ((Int.toNat x17) * 1)))) fun x_2 =>
          (match x16 with
          | some a_3 => (if (0 : Int) ≤ x17 ∧ x17 < (Int.ofNat x16n)
            then (Option.bind (intOf? .i64 (AMem.ld M a_3.block (a_3.off + ((Int.toNat x17) * 1)))) fun x_4 =>
              (if (x_2 != x_4) = true
              then some (.bool false, M)
              else P3_44 L x2 x2n x2c x3 x4 x5 x6 x11 x12 x13 x14 x15 x15n x15c x16 x16n x16c x17 M))
            else none)
          | none => none))
        else none)
      | none => none)
    else P3_45 L x2 x2n x2c x3 x4 x5 x6 x11 x12 x13 x14 M) := by
  subst hP3_28; subst hP3_44; subst hP3_45; exact (hb (blockK 0 (seqK (code L (.clear [0, 1, 7, 8, 9, 10, 15, 16, 17, 18, 19, 20, 21, 22, 23, 24, 25, 26, 27, 28, 29, 30, 31, 32, 33, 34, 35, 36, 37, 38, 39, 40, 41, 42, 43, 44, 45, 46, 47, 48, 49, 50, 51, 52, 53, 54, 55, 56, 57, 58, 59, 60, 61, 62, 63, 64, 65, 66, 67, 68, 69, 70, 71, 72, 73, 74, 75, 76, 77, 78, 79, 80, 81, 82, 83, 84, 85, 86, 87, 88, 89, 90, 91, 92, 93, 94, 95, 96, 97, 98, 99, 100, 101, 102, 103, 104, 105, 106, 107, 108, 109, 110, 111, 112, 113, 114, 115, 116, 117, 118, 119, 120, 121, 122, 123, 124, 125, 126, 127, 128, 129, 130, 131, 132, 133, 134, 135, 136, 137, 138, 139, 140, 141, 142, 143, 144, 145, 146, 147, 148, 149, 150, 151, 152, 153, 154, 155, 156, 157, 158, 159, 160, 161, 162, 163, 164, 165, 166, 167, 168, 169, 170, 171, 172, 173, 174, 175, 176, 177, 178, 179, 180, 181, 182] c3_45) (retK [.tmp 10])) (retK [.tmp 10]))) (s3_28 x2 x2n x2c x3 x4 x5 x6 x11 x12 x13 x14 x15 x15n x15c x16 x16n x16c x17 M) M).trans (by kernel_rfl)
theorem P3_28_eq (L : Rec) (hL : ∀ b K t A, L.loop b K t A = code L b (loopK L b K) t A) (x2 : Option Addr) (x2n : Nat) (x2c : Nat) (x3 : Int) (x4 : Int) (x5 : Nat) (x6 : Nat) (x11 : Nat) (x12 : Bool) (x13 : Nat) (x14 : Bool) (x15 : Option Addr) (x15n : Nat) (x15c : Nat) (x16 : Option Addr) (x16n : Nat) (x16c : Nat) (x17 : Int) (M : AMem) : P3_28 L x2 x2n x2c x3 x4 x5 x6 x11 x12 x13 x14 x15 x15n x15c x16 x16n x16c x17 M =
  (if (decide (x17 < (Int.ofNat x15n))) = true
    then (match x15 with
      | some a_1 => (if (0 : Int) ≤ x17 ∧ x17 < (Int.ofNat x15n)
        then (Option.bind (intOf? .i64 (AMem.ld M a_1.block (a_1.off + ((Int.toNat x17) * 1)))) fun x_2 =>
          (match x16 with
          | some a_3 => (if (0 : Int) ≤ x17 ∧ x17 < (Int.ofNat x16n)
            then (Option.bind (intOf? .i64 (AMem.ld M a_3.block (a_3.off + ((Int.toNat x17) * 1)))) fun x_4 =>
              (if (x_2 != x_4) = true
              then some (.bool false, M)
              else P3_44 L x2 x2n x2c x3 x4 x5 x6 x11 x12 x13 x14 x15 x15n x15c x16 x16n x16c x17 M))
            else none)
          | none => none))
        else none)
      | none => none)
    else P3_45 L x2 x2n x2c x3 x4 x5 x6 x11 x12 x13 x14 M) := QP3_28_eq L b3_28 c3_44 c3_45 (hL b3_28) P3_28 (Classical.choose_spec XP3_28) P3_44 (Classical.choose_spec XP3_44) P3_45 (Classical.choose_spec XP3_45) x2 x2n x2c x3 x4 x5 x6 x11 x12 x13 x14 x15 x15n x15c x16 x16n x16c x17 M
theorem QP3_44_eq (L : Rec) (b3_28 c3_45 : ACode) (P3_28 : Rec → (Option Addr) → Nat → Nat → Int → Int → Nat → Nat → Nat → Bool → Nat → Bool → (Option Addr) → Nat → Nat → (Option Addr) → Nat → Nat → Int → AMem → Res) (hP3_28 : P3_28 = fun (L : Rec) (x2 : Option Addr) (x2n : Nat) (x2c : Nat) (x3 : Int) (x4 : Int) (x5 : Nat) (x6 : Nat) (x11 : Nat) (x12 : Bool) (x13 : Nat) (x14 : Bool) (x15 : Option Addr) (x15n : Nat) (x15c : Nat) (x16 : Option Addr) (x16n : Nat) (x16c : Nat) (x17 : Int) (M : AMem) => L.loop b3_28 (blockK 0 (seqK (code L (.clear [0, 1, 7, 8, 9, 10, 15, 16, 17, 18, 19, 20, 21, 22, 23, 24, 25, 26, 27, 28, 29, 30, 31, 32, 33, 34, 35, 36, 37, 38, 39, 40, 41, 42, 43, 44, 45, 46, 47, 48, 49, 50, 51, 52, 53, 54, 55, 56, 57, 58, 59, 60, 61, 62, 63, 64, 65, 66, 67, 68, 69, 70, 71, 72, 73, 74, 75, 76, 77, 78, 79, 80, 81, 82, 83, 84, 85, 86, 87, 88, 89, 90, 91, 92, 93, 94, 95, 96, 97, 98, 99, 100, 101, 102, 103, 104, 105, 106, 107, 108, 109, 110, 111, 112, 113, 114, 115, 116, 117, 118, 119, 120, 121, 122, 123, 124, 125, 126, 127, 128, 129, 130, 131, 132, 133, 134, 135, 136, 137, 138, 139, 140, 141, 142, 143, 144, 145, 146, 147, 148, 149, 150, 151, 152, 153, 154, 155, 156, 157, 158, 159, 160, 161, 162, 163, 164, 165, 166, 167, 168, 169, 170, 171, 172, 173, 174, 175, 176, 177, 178, 179, 180, 181, 182] c3_45) (retK [.tmp 10])) (retK [.tmp 10]))) (s3_28 x2 x2n x2c x3 x4 x5 x6 x11 x12 x13 x14 x15 x15n x15c x16 x16n x16c x17 M) M) (P3_44 : Rec → (Option Addr) → Nat → Nat → Int → Int → Nat → Nat → Nat → Bool → Nat → Bool → (Option Addr) → Nat → Nat → (Option Addr) → Nat → Nat → Int → AMem → Res) (hP3_44 : P3_44 = fun (L : Rec) (x2 : Option Addr) (x2n : Nat) (x2c : Nat) (x3 : Int) (x4 : Int) (x5 : Nat) (x6 : Nat) (x11 : Nat) (x12 : Bool) (x13 : Nat) (x14 : Bool) (x15 : Option Addr) (x15n : Nat) (x15c : Nat) (x16 : Option Addr) (x16n : Nat) (x16c : Nat) (x17 : Int) (M : AMem) => code L (.ops o3_44) (postK [0, 1, 7, 8, 9, 10, 18, 19, 20, 21, 22, 23, 24, 25, 26, 27, 28, 29, 30, 31, 32, 33, 34, 35, 36, 37, 38, 39, 40, 41, 42, 43, 44, 45, 46, 47, 48, 49, 50, 51, 52, 53, 54, 55, 56, 57, 58, 59, 60, 61, 62, 63, 64, 65, 66, 67, 68, 69, 70, 71, 72, 73, 74, 75, 76, 77, 78, 79, 80, 81, 82, 83, 84, 85, 86, 87, 88, 89, 90, 91, 92, 93, 94, 95, 96, 97, 98, 99, 100, 101, 102, 103, 104, 105, 106, 107, 108, 109, 110, 111, 112, 113, 114, 115, 116, 117, 118, 119, 120, 121, 122, 123, 124, 125, 126, 127, 128, 129, 130, 131, 132, 133, 134, 135, 136, 137, 138, 139, 140, 141, 142, 143, 144, 145, 146, 147, 148, 149, 150, 151, 152, 153, 154, 155, 156, 157, 158, 159, 160, 161, 162, 163, 164, 165, 166, 167, 168, 169, 170, 171, 172, 173, 174, 175, 176, 177, 178, 179, 180, 181, 182] (loopK L b3_28 (blockK 0 (seqK (code L (.clear [0, 1, 7, 8, 9, 10, 15, 16, 17, 18, 19, 20, 21, 22, 23, 24, 25, 26, 27, 28, 29, 30, 31, 32, 33, 34, 35, 36, 37, 38, 39, 40, 41, 42, 43, 44, 45, 46, 47, 48, 49, 50, 51, 52, 53, 54, 55, 56, 57, 58, 59, 60, 61, 62, 63, 64, 65, 66, 67, 68, 69, 70, 71, 72, 73, 74, 75, 76, 77, 78, 79, 80, 81, 82, 83, 84, 85, 86, 87, 88, 89, 90, 91, 92, 93, 94, 95, 96, 97, 98, 99, 100, 101, 102, 103, 104, 105, 106, 107, 108, 109, 110, 111, 112, 113, 114, 115, 116, 117, 118, 119, 120, 121, 122, 123, 124, 125, 126, 127, 128, 129, 130, 131, 132, 133, 134, 135, 136, 137, 138, 139, 140, 141, 142, 143, 144, 145, 146, 147, 148, 149, 150, 151, 152, 153, 154, 155, 156, 157, 158, 159, 160, 161, 162, 163, 164, 165, 166, 167, 168, 169, 170, 171, 172, 173, 174, 175, 176, 177, 178, 179, 180, 181, 182] c3_45) (retK [.tmp 10])) (retK [.tmp 10]))))) (s3_44 x2 x2n x2c x3 x4 x5 x6 x11 x12 x13 x14 x15 x15n x15c x16 x16n x16c x17 M) M) (x2 : Option Addr) (x2n : Nat) (x2c : Nat) (x3 : Int) (x4 : Int) (x5 : Nat) (x6 : Nat) (x11 : Nat) (x12 : Bool) (x13 : Nat) (x14 : Bool) (x15 : Option Addr) (x15n : Nat) (x15c : Nat) (x16 : Option Addr) (x16n : Nat) (x16c : Nat) (x17 : Int) (M : AMem) : P3_44 L x2 x2n x2c x3 x4 x5 x6 x11 x12 x13 x14 x15 x15n x15c x16 x16n x16c x17 M =
  P3_28 L x2 x2n x2c x3 x4 x5 x6 x11 x12 x13 x14 x15 x15n x15c x16 x16n x16c (IntKind.wrap .i64 (x17 + 1)) M := by
  subst hP3_28; subst hP3_44; kernel_rfl
theorem P3_44_eq (L : Rec) (x2 : Option Addr) (x2n : Nat) (x2c : Nat) (x3 : Int) (x4 : Int) (x5 : Nat) (x6 : Nat) (x11 : Nat) (x12 : Bool) (x13 : Nat) (x14 : Bool) (x15 : Option Addr) (x15n : Nat) (x15c : Nat) (x16 : Option Addr) (x16n : Nat) (x16c : Nat) (x17 : Int) (M : AMem) : P3_44 L x2 x2n x2c x3 x4 x5 x6 x11 x12 x13 x14 x15 x15n x15c x16 x16n x16c x17 M =
  P3_28 L x2 x2n x2c x3 x4 x5 x6 x11 x12 x13 x14 x15 x15n x15c x16 x16n x16c (IntKind.wrap .i64 (x17 + 1)) M := QP3_44_eq L b3_28 c3_45 P3_28 (Classical.choose_spec XP3_28) P3_44 (Classical.choose_spec XP3_44) x2 x2n x2c x3 x4 x5 x6 x11 x12 x13 x14 x15 x15n x15c x16 x16n x16c x17 M
theorem QP3_45_eq (L : Rec) (c3_51 : ACode) (P3_45 : Rec → (Option Addr) → Nat → Nat → Int → Int → Nat → Nat → Nat → Bool → Nat → Bool → AMem → Res) (hP3_45 : P3_45 = fun (L : Rec) (x2 : Option Addr) (x2n : Nat) (x2c : Nat) (x3 : Int) (x4 : Int) (x5 : Nat) (x6 : Nat) (x11 : Nat) (x12 : Bool) (x13 : Nat) (x14 : Bool) (M : AMem) => code L (.seq (.draw f3_46 0 o3_46 [(3, 1), (9, 1), (9, 4), (9, 5)]) (.seq (.ops o3_48) (.seq (.draw f3_50 0 o3_50 [(2, 1), (9, 1), (9, 3), (9, 5)]) (.clear [0, 1, 2, 7, 8, 9, 10, 15, 16, 17, 24, 25, 26, 27, 28, 29, 30, 31, 32, 33, 34, 35, 36, 37, 38, 39, 40, 41, 42, 43, 44, 45, 46, 47, 48, 49, 50, 51, 52, 53, 54, 55, 56, 57, 58, 59, 60, 61, 62, 63, 64, 65, 66, 67, 68, 69, 70, 71, 72, 73, 74, 75, 76, 77, 78, 79, 80, 81, 82, 83, 84, 85, 86, 87, 88, 89, 90, 91, 92, 93, 94, 95, 96, 97, 98, 99, 100, 101, 102, 103, 104, 105, 106, 107, 108, 109, 110, 111, 112, 113, 114, 115, 116, 117, 118, 119, 120, 121, 122, 123, 124, 125, 126, 127, 128, 129, 130, 131, 132, 133, 134, 135, 136, 137, 138, 139, 140, 141, 142, 143, 144, 145, 146, 147, 148, 149, 150, 151, 152, 153, 154, 155, 156, 157, 158, 159, 160, 161, 162, 163, 164, 165, 166, 167, 168, 169, 170, 171, 172, 173, 174, 175, 176, 177, 178, 179, 180, 181, 182] c3_51)))) (retK [.tmp 10]) (s3_45 x2 x2n x2c x3 x4 x5 x6 x11 x12 x13 x14 M) M) (P3_51 : Rec → Int → Int → Nat → Nat → Nat → Bool → Nat → Bool → Nat → Bool → Nat → Bool → Nat → Bool → AMem → Res) (hP3_51 : P3_51 = fun (L : Rec) (x3 : Int) (x4 : Int) (x5 : Nat) (x6 : Nat) (x11 : Nat) (x12 : Bool) (x13 : Nat) (x14 : Bool) (x18 : Nat) (x19 : Bool) (x20 : Nat) (x21 : Bool) (x22 : Nat) (x23 : Bool) (M : AMem) => code L c3_51 (retK [.tmp 10]) (s3_51 x3 x4 x5 x6 x11 x12 x13 x14 x18 x19 x20 x21 x22 x23 M) M) (x2 : Option Addr) (x2n : Nat) (x2c : Nat) (x3 : Int) (x4 : Int) (x5 : Nat) (x6 : Nat) (x11 : Nat) (x12 : Bool) (x13 : Nat) (x14 : Bool) (M : AMem) : P3_45 L x2 x2n x2c x3 x4 x5 x6 x11 x12 x13 x14 M =
  (Option.bind (intOf? .i64 (AMem.ld (M ++ [AObj.cells [.int .i64 0, .int .i64 0, .slice none 0 0] ⟨false, 0⟩]) x5 0)) fun x_1 =>
    (Option.bind (intOf? .i64 (AMem.ld (M ++ [AObj.cells [.int .i64 0, .int .i64 0, .slice none 0 0] ⟨false, 0⟩]) x5 1)) fun x_2 =>
    (Option.bind (sliceOf? (AMem.ld (M ++ [AObj.cells [.int .i64 0, .int .i64 0, .slice none 0 0] ⟨false, 0⟩]) x5 2)) fun s_3 =>
    (Option.bind (L.call 7 [.agg #[.int .i64 x_1, .int .i64 x_2, .slice s_3.1 s_3.2.1 s_3.2.2]] (M ++ [AObj.cells [.int .i64 0, .int .i64 0, .slice none 0 0] ⟨false, 0⟩])) fun r_4 =>
    (Option.bind (aggOf? 3 r_4.1) fun cs_5 =>
    (Option.bind (intOf? .i64 (cs_5[0]?)) fun x_6 =>
    (Option.bind (intOf? .i64 (cs_5[1]?)) fun x_7 =>
    (Option.bind (sliceOf? (cs_5[2]?)) fun s_8 =>
    (Option.bind (intOf? .i64 (AMem.ld r_4.2 x6 0)) fun x_9 =>
    (Option.bind (intOf? .i64 (AMem.ld r_4.2 x6 1)) fun x_10 =>
    (Option.bind (sliceOf? (AMem.ld r_4.2 x6 2)) fun s_11 =>
    (Option.bind (L.call 7 [.agg #[.int .i64 x_9, .int .i64 x_10, .slice s_11.1 s_11.2.1 s_11.2.2]] r_4.2) fun r_12 =>
    (Option.bind (aggOf? 3 r_12.1) fun cs_13 =>
    (Option.bind (intOf? .i64 (cs_13[0]?)) fun x_14 =>
    (Option.bind (intOf? .i64 (cs_13[1]?)) fun x_15 =>
    (Option.bind (sliceOf? (cs_13[2]?)) fun s_16 =>
    (Option.bind (L.call 11 [.agg #[.int .i64 x_6, .int .i64 x_7, .slice s_8.1 s_8.2.1 s_8.2.2], .slice x2 x2n x2c, .agg #[.int .i64 x_14, .int .i64 x_15, .slice s_16.1 s_16.2.1 s_16.2.2]] r_12.2) fun r_17 =>
    (Option.bind (tupOf? 2 r_17.1) fun cs_18 =>
    (Option.bind (cs_18[0]?) fun u_19 =>
    (Option.bind (aggOf? 3 u_19) fun cs_20 =>
    (Option.bind (intOf? .i64 (cs_20[0]?)) fun x_21 =>
    (Option.bind (intOf? .i64 (cs_20[1]?)) fun x_22 =>
    (Option.bind (sliceOf? (cs_20[2]?)) fun s_23 =>
    (Option.bind (cs_18[1]?) fun u_24 =>
    (Option.bind (boolOf? (some u_24)) fun q_25 =>
    (Option.bind (AMem.wr r_17.2 (List.length M) 0 [.int .i64 x_21, .int .i64 x_22, .slice s_23.1 s_23.2.1 s_23.2.2]) fun M_26 =>
    (if chkOk [(3, 1), (9, 1), (9, 4), (9, 5)] [(9, (List.length M)), (3, x6)] [(5, (r_12.2, r_17.2)), (4, (r_4.2, r_12.2)), (1, ((M ++ [AObj.cells [.int .i64 0, .int .i64 0, .slice none 0 0] ⟨false, 0⟩]), r_4.2))] = true
    then (Option.bind (intOf? .i64 (AMem.ld M_26 x5 0)) fun x_27 =>
      (Option.bind (intOf? .i64 (AMem.ld M_26 x5 1)) fun x_28 =>
      (Option.bind (sliceOf? (AMem.ld M_26 x5 2)) fun s_29 =>
      (Option.bind (intOf? .i64 (AMem.ld M_26 x6 0)) fun x_30 =>
      (Option.bind (intOf? .i64 (AMem.ld M_26 x6 1)) fun x_31 =>
      (Option.bind (sliceOf? (AMem.ld M_26 x6 2)) fun s_32 =>
      (Option.bind (L.call 12 [.agg #[.int .i64 x_27, .int .i64 x_28, .slice s_29.1 s_29.2.1 s_29.2.2], .slice x2 x2n x2c, .agg #[.int .i64 x_30, .int .i64 x_31, .slice s_32.1 s_32.2.1 s_32.2.2]] M_26) fun r_33 =>
      (Option.bind (tupOf? 2 r_33.1) fun cs_34 =>
      (Option.bind (cs_34[0]?) fun u_35 =>
      (Option.bind (aggOf? 3 u_35) fun cs_36 =>
      (Option.bind (intOf? .i64 (cs_36[0]?)) fun x_37 =>
      (Option.bind (intOf? .i64 (cs_36[1]?)) fun x_38 =>
      (Option.bind (sliceOf? (cs_36[2]?)) fun s_39 =>
      (Option.bind (cs_34[1]?) fun u_40 =>
      (Option.bind (boolOf? (some u_40)) fun q_41 =>
      (Option.bind (AMem.wr (r_33.2 ++ [AObj.cells [.int .i64 0, .int .i64 0, .slice none 0 0] ⟨false, 0⟩]) (List.length r_33.2) 0 [.int .i64 x_37, .int .i64 x_38, .slice s_39.1 s_39.2.1 s_39.2.2]) fun M_42 =>
      (Option.bind (intOf? .i64 (AMem.ld (M_42 ++ [AObj.cells [.int .i64 0, .int .i64 0, .slice none 0 0] ⟨false, 0⟩]) x5 0)) fun x_43 =>
      (Option.bind (intOf? .i64 (AMem.ld (M_42 ++ [AObj.cells [.int .i64 0, .int .i64 0, .slice none 0 0] ⟨false, 0⟩]) x5 1)) fun x_44 =>
      (Option.bind (sliceOf? (AMem.ld (M_42 ++ [AObj.cells [.int .i64 0, .int .i64 0, .slice none 0 0] ⟨false, 0⟩]) x5 2)) fun s_45 =>
      (Option.bind (L.call 7 [.agg #[.int .i64 x_43, .int .i64 x_44, .slice s_45.1 s_45.2.1 s_45.2.2]] (M_42 ++ [AObj.cells [.int .i64 0, .int .i64 0, .slice none 0 0] ⟨false, 0⟩])) fun r_46 =>
      (Option.bind (aggOf? 3 r_46.1) fun cs_47 =>
      (Option.bind (intOf? .i64 (cs_47[0]?)) fun x_48 =>
      (Option.bind (intOf? .i64 (cs_47[1]?)) fun x_49 =>
      (Option.bind (sliceOf? (cs_47[2]?)) fun s_50 =>
      (Option.bind (intOf? .i64 (AMem.ld r_46.2 x6 0)) fun x_51 =>
      (Option.bind (intOf? .i64 (AMem.ld r_46.2 x6 1)) fun x_52 =>
      (Option.bind (sliceOf? (AMem.ld r_46.2 x6 2)) fun s_53 =>
      (Option.bind (L.call 7 [.agg #[.int .i64 x_51, .int .i64 x_52, .slice s_53.1 s_53.2.1 s_53.2.2]] r_46.2) fun r_54 =>
      (Option.bind (aggOf? 3 r_54.1) fun cs_55 =>
      (Option.bind (intOf? .i64 (cs_55[0]?)) fun x_56 =>
      (Option.bind (intOf? .i64 (cs_55[1]?)) fun x_57 =>
      (Option.bind (sliceOf? (cs_55[2]?)) fun s_58 =>
      (Option.bind (L.call 13 [.agg #[.int .i64 x_48, .int .i64 x_49, .slice s_50.1 s_50.2.1 s_50.2.2], .agg #[.int .i64 x_56, .int .i64 x_57, .slice s_58.1 s_58.2.1 s_58.2.2], .int .i64 x3] r_54.2) fun r_59 =>
      (Option.bind (tupOf? 2 r_59.1) fun cs_60 =>
      (Option.bind (cs_60[0]?) fun u_61 =>
      (Option.bind (aggOf? 3 u_61) fun cs_62 =>
      (Option.bind (intOf? .i64 (cs_62[0]?)) fun x_63 =>
      (Option.bind (intOf? .i64 (cs_62[1]?)) fun x_64 =>
      (Option.bind (sliceOf? (cs_62[2]?)) fun s_65 =>
      (Option.bind (cs_60[1]?) fun u_66 =>
      (Option.bind (boolOf? (some u_66)) fun q_67 =>
      (Option.bind (AMem.wr r_59.2 (List.length M_42) 0 [.int .i64 x_63, .int .i64 x_64, .slice s_65.1 s_65.2.1 s_65.2.2]) fun M_68 =>
      (if chkOk [(2, 1), (9, 1), (9, 3), (9, 5)] [(9, (List.length M_42)), (2, x6)] [(5, (r_54.2, r_59.2)), (3, (r_46.2, r_54.2)), (1, ((M_42 ++ [AObj.cells [.int .i64 0, .int .i64 0, .slice none 0 0] ⟨false, 0⟩]), r_46.2))] = true
      then P3_51 L x3 x4 x5 x6 x11 x12 x13 x14 (List.length M) q_25 (List.length r_33.2) q_41 (List.length M_42) q_67 M_68
      else none)))))))))))))))))))))))))))))))))))))))))))
    else none))))))))))))))))))))))))))) := by
  subst hP3_45; subst hP3_51; kernel_rfl
theorem P3_45_eq (L : Rec) (x2 : Option Addr) (x2n : Nat) (x2c : Nat) (x3 : Int) (x4 : Int) (x5 : Nat) (x6 : Nat) (x11 : Nat) (x12 : Bool) (x13 : Nat) (x14 : Bool) (M : AMem) : P3_45 L x2 x2n x2c x3 x4 x5 x6 x11 x12 x13 x14 M =
  (Option.bind (intOf? .i64 (AMem.ld (M ++ [AObj.cells [.int .i64 0, .int .i64 0, .slice none 0 0] ⟨false, 0⟩]) x5 0)) fun x_1 =>
    (Option.bind (intOf? .i64 (AMem.ld (M ++ [AObj.cells [.int .i64 0, .int .i64 0, .slice none 0 0] ⟨false, 0⟩]) x5 1)) fun x_2 =>
    (Option.bind (sliceOf? (AMem.ld (M ++ [AObj.cells [.int .i64 0, .int .i64 0, .slice none 0 0] ⟨false, 0⟩]) x5 2)) fun s_3 =>
    (Option.bind (L.call 7 [.agg #[.int .i64 x_1, .int .i64 x_2, .slice s_3.1 s_3.2.1 s_3.2.2]] (M ++ [AObj.cells [.int .i64 0, .int .i64 0, .slice none 0 0] ⟨false, 0⟩])) fun r_4 =>
    (Option.bind (aggOf? 3 r_4.1) fun cs_5 =>
    (Option.bind (intOf? .i64 (cs_5[0]?)) fun x_6 =>
    (Option.bind (intOf? .i64 (cs_5[1]?)) fun x_7 =>
    (Option.bind (sliceOf? (cs_5[2]?)) fun s_8 =>
    (Option.bind (intOf? .i64 (AMem.ld r_4.2 x6 0)) fun x_9 =>
    (Option.bind (intOf? .i64 (AMem.ld r_4.2 x6 1)) fun x_10 =>
    (Option.bind (sliceOf? (AMem.ld r_4.2 x6 2)) fun s_11 =>
    (Option.bind (L.call 7 [.agg #[.int .i64 x_9, .int .i64 x_10, .slice s_11.1 s_11.2.1 s_11.2.2]] r_4.2) fun r_12 =>
    (Option.bind (aggOf? 3 r_12.1) fun cs_13 =>
    (Option.bind (intOf? .i64 (cs_13[0]?)) fun x_14 =>
    (Option.bind (intOf? .i64 (cs_13[1]?)) fun x_15 =>
    (Option.bind (sliceOf? (cs_13[2]?)) fun s_16 =>
    (Option.bind (L.call 11 [.agg #[.int .i64 x_6, .int .i64 x_7, .slice s_8.1 s_8.2.1 s_8.2.2], .slice x2 x2n x2c, .agg #[.int .i64 x_14, .int .i64 x_15, .slice s_16.1 s_16.2.1 s_16.2.2]] r_12.2) fun r_17 =>
    (Option.bind (tupOf? 2 r_17.1) fun cs_18 =>
    (Option.bind (cs_18[0]?) fun u_19 =>
    (Option.bind (aggOf? 3 u_19) fun cs_20 =>
    (Option.bind (intOf? .i64 (cs_20[0]?)) fun x_21 =>
    (Option.bind (intOf? .i64 (cs_20[1]?)) fun x_22 =>
    (Option.bind (sliceOf? (cs_20[2]?)) fun s_23 =>
    (Option.bind (cs_18[1]?) fun u_24 =>
    (Option.bind (boolOf? (some u_24)) fun q_25 =>
    (Option.bind (AMem.wr r_17.2 (List.length M) 0 [.int .i64 x_21, .int .i64 x_22, .slice s_23.1 s_23.2.1 s_23.2.2]) fun M_26 =>
    (if chkOk [(3, 1), (9, 1), (9, 4), (9, 5)] [(9, (List.length M)), (3, x6)] [(5, (r_12.2, r_17.2)), (4, (r_4.2, r_12.2)), (1, ((M ++ [AObj.cells [.int .i64 0, .int .i64 0, .slice none 0 0] ⟨false, 0⟩]), r_4.2))] = true
    then (Option.bind (intOf? .i64 (AMem.ld M_26 x5 0)) fun x_27 =>
      (Option.bind (intOf? .i64 (AMem.ld M_26 x5 1)) fun x_28 =>
      (Option.bind (sliceOf? (AMem.ld M_26 x5 2)) fun s_29 =>
      (Option.bind (intOf? .i64 (AMem.ld M_26 x6 0)) fun x_30 =>
      (Option.bind (intOf? .i64 (AMem.ld M_26 x6 1)) fun x_31 =>
      (Option.bind (sliceOf? (AMem.ld M_26 x6 2)) fun s_32 =>
      (Option.bind (L.call 12 [.agg #[.int .i64 x_27, .int .i64 x_28, .slice s_29.1 s_29.2.1 s_29.2.2], .slice x2 x2n x2c, .agg #[.int .i64 x_30, .int .i64 x_31, .slice s_32.1 s_32.2.1 s_32.2.2]] M_26) fun r_33 =>
      (Option.bind (tupOf? 2 r_33.1) fun cs_34 =>
      (Option.bind (cs_34[0]?) fun u_35 =>
      (Option.bind (aggOf? 3 u_35) fun cs_36 =>
      (Option.bind (intOf? .i64 (cs_36[0]?)) fun x_37 =>
      (Option.bind (intOf? .i64 (cs_36[1]?)) fun x_38 =>
      (Option.bind (sliceOf? (cs_36[2]?)) fun s_39 =>
      (Option.bind (cs_34[1]?) fun u_40 =>
      (Option.bind (boolOf? (some u_40)) fun q_41 =>
      (Option.bind (AMem.wr (r_33.2 ++ [AObj.cells [.int .i64 0, .int .i64 0, .slice none 0 0] ⟨false, 0⟩]) (List.length r_33.2) 0 [.int .i64 x_37, .int .i64 x_38, .slice s_39.1 s_39.2.1 s_39.2.2]) fun M_42 =>
      (Option.bind (intOf? .i64 (AMem.ld (M_42 ++ [AObj.cells [.int .i64 0, .int .i64 0, .slice none 0 0] ⟨false, 0⟩]) x5 0)) fun x_43 =>
      (Option.bind (intOf? .i64 (AMem.ld (M_42 ++ [AObj.cells [.int .i64 0, .int .i64 0, .slice none 0 0] ⟨false, 0⟩]) x5 1)) fun x_44 =>
      (Option.bind (sliceOf? (AMem.ld (M_42 ++ [AObj.cells [.int .i64 0, .int .i64 0, .slice none 0 0] ⟨false, 0⟩]) x5 2)) fun s_45 =>
      (Option.bind (L.call 7 [.agg #[.int .i64 x_43, .int .i64 x_44, .slice s_45.1 s_45.2.1 s_45.2.2]] (M_42 ++ [AObj.cells [.int .i64 0, .int .i64 0, .slice none 0 0] ⟨false, 0⟩])) fun r_46 =>
      (Option.bind (aggOf? 3 r_46.1) fun cs_47 =>
      (Option.bind (intOf? .i64 (cs_47[0]?)) fun x_48 =>
      (Option.bind (intOf? .i64 (cs_47[1]?)) fun x_49 =>
      (Option.bind (sliceOf? (cs_47[2]?)) fun s_50 =>
      (Option.bind (intOf? .i64 (AMem.ld r_46.2 x6 0)) fun x_51 =>
      (Option.bind (intOf? .i64 (AMem.ld r_46.2 x6 1)) fun x_52 =>
      (Option.bind (sliceOf? (AMem.ld r_46.2 x6 2)) fun s_53 =>
      (Option.bind (L.call 7 [.agg #[.int .i64 x_51, .int .i64 x_52, .slice s_53.1 s_53.2.1 s_53.2.2]] r_46.2) fun r_54 =>
      (Option.bind (aggOf? 3 r_54.1) fun cs_55 =>
      (Option.bind (intOf? .i64 (cs_55[0]?)) fun x_56 =>
      (Option.bind (intOf? .i64 (cs_55[1]?)) fun x_57 =>
      (Option.bind (sliceOf? (cs_55[2]?)) fun s_58 =>
      (Option.bind (L.call 13 [.agg #[.int .i64 x_48, .int .i64 x_49, .slice s_50.1 s_50.2.1 s_50.2.2], .agg #[.int .i64 x_56, .int .i64 x_57, .slice s_58.1 s_58.2.1 s_58.2.2], .int .i64 x3] r_54.2) fun r_59 =>
      (Option.bind (tupOf? 2 r_59.1) fun cs_60 =>
      (Option.bind (cs_60[0]?) fun u_61 =>
      (Option.bind (aggOf? 3 u_61) fun cs_62 =>
      (Option.bind (intOf? .i64 (cs_62[0]?)) fun x_63 =>
      (Option.bind (intOf? .i64 (cs_62[1]?)) fun x_64 =>
      (Option.bind (sliceOf? (cs_62[2]?)) fun s_65 =>
      (Option.bind (cs_60[1]?) fun u_66 =>
      (Option.bind (boolOf? (some u_66)) fun q_67 =>
      (Option.bind (AMem.wr r_59.2 (List.length M_42) 0 [.int .i64 x_63, .int .i64 x_64, .slice s_65.1 s_65.2.1 s_65.2.2]) fun M_68 =>
      (if chkOk [(2, 1), (9, 1), (9, 3), (9, 5)] [(9, (List.length M_42)), (2, x6)] [(5, (r_54.2, r_59.2)), (3, (r_46.2, r_54.2)), (1, ((M_42 ++ [AObj.cells [.int .i64 0, .int .i64 0, .slice none 0 0] ⟨false, 0⟩]), r_46.2))] = true
      then P3_51 L x3 x4 x5 x6 x11 x12 x13 x14 (List.length M) q_25 (List.length r_33.2) q_41 (List.length M_42) q_67 M_68
      else none)))))))))))))))))))))))))))))))))))))))))))
    else none))))))))))))))))))))))))))) := QP3_45_eq L c3_51 P3_45 (Classical.choose_spec XP3_45) P3_51 (Classical.choose_spec XP3_51) x2 x2n x2c x3 x4 x5 x6 x11 x12 x13 x14 M
theorem QP3_51_eq (L : Rec) (P3_51 : Rec → Int → Int → Nat → Nat → Nat → Bool → Nat → Bool → Nat → Bool → Nat → Bool → Nat → Bool → AMem → Res) (hP3_51 : P3_51 = fun (L : Rec) (x3 : Int) (x4 : Int) (x5 : Nat) (x6 : Nat) (x11 : Nat) (x12 : Bool) (x13 : Nat) (x14 : Bool) (x18 : Nat) (x19 : Bool) (x20 : Nat) (x21 : Bool) (x22 : Nat) (x23 : Bool) (M : AMem) => code L (.seq (.ops o3_52) (.seq (.draw [] 0 o3_54 [(34, 33), (45, 44)]) (.ret))) (retK [.tmp 10]) (s3_51 x3 x4 x5 x6 x11 x12 x13 x14 x18 x19 x20 x21 x22 x23 M) M) (x3 : Int) (x4 : Int) (x5 : Nat) (x6 : Nat) (x11 : Nat) (x12 : Bool) (x13 : Nat) (x14 : Bool) (x18 : Nat) (x19 : Bool) (x20 : Nat) (x21 : Bool) (x22 : Nat) (x23 : Bool) (M : AMem) : P3_51 L x3 x4 x5 x6 x11 x12 x13 x14 x18 x19 x20 x21 x22 x23 M =
  (Option.bind (intOf? .i64 (AMem.ld M x5 0)) fun x_1 =>
    (Option.bind (intOf? .i64 (AMem.ld M x5 1)) fun x_2 =>
    (Option.bind (sliceOf? (AMem.ld M x5 2)) fun s_3 =>
    (Option.bind (intOf? .i64 (AMem.ld M x6 0)) fun x_4 =>
    (Option.bind (intOf? .i64 (AMem.ld M x6 1)) fun x_5 =>
    (Option.bind (sliceOf? (AMem.ld M x6 2)) fun s_6 =>
    (Option.bind (L.call 14 [.agg #[.int .i64 x_1, .int .i64 x_2, .slice s_3.1 s_3.2.1 s_3.2.2], .agg #[.int .i64 x_4, .int .i64 x_5, .slice s_6.1 s_6.2.1 s_6.2.2], .int .i64 x3] M) fun r_7 =>
    (Option.bind (tupOf? 2 r_7.1) fun cs_8 =>
    (Option.bind (cs_8[0]?) fun u_9 =>
    (Option.bind (aggOf? 3 u_9) fun cs_10 =>
    (Option.bind (intOf? .i64 (cs_10[0]?)) fun x_11 =>
    (Option.bind (intOf? .i64 (cs_10[1]?)) fun x_12 =>
    (Option.bind (sliceOf? (cs_10[2]?)) fun s_13 =>
    (Option.bind (cs_8[1]?) fun u_14 =>
    (Option.bind (boolOf? (some u_14)) fun q_15 =>
    (Option.bind (AMem.wr (r_7.2 ++ [AObj.cells [.int .i64 0, .int .i64 0, .slice none 0 0] ⟨false, 0⟩]) (List.length r_7.2) 0 [.int .i64 x_11, .int .i64 x_12, .slice s_13.1 s_13.2.1 s_13.2.2]) fun M_16 =>
    (Option.bind (intOf? .i64 (AMem.ld M_16 x11 0)) fun x_17 =>
    (Option.bind (intOf? .i64 (AMem.ld M_16 x13 0)) fun x_18 =>
    (if (x_17 == x_18) = true
    then (Option.bind (intOf? .i64 (AMem.ld M_16 x11 1)) fun x_19 =>
      (Option.bind (intOf? .i64 (AMem.ld M_16 x13 1)) fun x_20 =>
      (if (x_19 == x_20) = true
      then (Option.bind (intOf? .i64 (AMem.ld M_16 x11 2)) fun x_21 =>
        (Option.bind (intOf? .i64 (AMem.ld M_16 x13 2)) fun x_22 =>
        (if (x_21 == x_22) = true
        then (Option.bind (intOf? .i64 (AMem.ld M_16 x11 3)) fun x_23 =>
          (Option.bind (intOf? .i64 (AMem.ld M_16 x13 3)) fun x_24 =>
          (if (x_23 == x_24) = true
          then (if (x12 == x14) = true
            then (Option.bind (intOf? .i64 (AMem.ld M_16 x18 0)) fun x_25 =>
              (Option.bind (intOf? .i64 (AMem.ld M_16 x18 1)) fun x_26 =>
              (Option.bind (sliceOf? (AMem.ld M_16 x18 2)) fun s_27 =>
              (Option.bind (L.call 16 [.agg #[.int .i64 x_25, .int .i64 x_26, .slice s_27.1 s_27.2.1 s_27.2.2]] M_16) fun r_28 =>
              (Option.bind (aggOf? 3 r_28.1) fun cs_29 =>
              (Option.bind (intOf? .i64 (cs_29[0]?)) fun x_30 =>
              (Option.bind (intOf? .i64 (cs_29[1]?)) fun x_31 =>
              (Option.bind (sliceOf? (cs_29[2]?)) fun s_32 =>
              (Option.bind (intOf? .i64 (AMem.ld r_28.2 x20 0)) fun x_33 =>
              (Option.bind (intOf? .i64 (AMem.ld r_28.2 x20 1)) fun x_34 =>
              (Option.bind (sliceOf? (AMem.ld r_28.2 x20 2)) fun s_35 =>
              (Option.bind (L.call 15 [.agg #[.int .i64 x_30, .int .i64 x_31, .slice s_32.1 s_32.2.1 s_32.2.2], .agg #[.int .i64 x_33, .int .i64 x_34, .slice s_35.1 s_35.2.1 s_35.2.2]] r_28.2) fun r_36 =>
              (Option.bind (boolOf? (some r_36.1)) fun q_37 =>
              (if q_37 = true
              then (if (x19 == x21) = true
                then (Option.bind (intOf? .i64 (AMem.ld r_36.2 x22 0)) fun x_38 =>
                  (Option.bind (intOf? .i64 (AMem.ld r_36.2 x22 1)) fun x_39 =>
                  (Option.bind (sliceOf? (AMem.ld r_36.2 x22 2)) fun s_40 =>
                  (Option.bind (L.call 16 [.agg #[.int .i64 x_38, .int .i64 x_39, .slice s_40.1 s_40.2.1 s_40.2.2]] r_36.2) fun r_41 =>
                  (Option.bind (aggOf? 3 r_41.1) fun cs_42 =>
                  (Option.bind (intOf? .i64 (cs_42[0]?)) fun x_43 =>
                  (Option.bind (intOf? .i64 (cs_42[1]?)) fun x_44 =>
                  (Option.bind (sliceOf? (cs_42[2]?)) fun s_45 =>
                  (Option.bind (intOf? .i64 (AMem.ld r_41.2 (List.length r_7.2) 0)) fun x_46 =>
                  (Option.bind (intOf? .i64 (AMem.ld r_41.2 (List.length r_7.2) 1)) fun x_47 =>
                  (Option.bind (sliceOf? (AMem.ld r_41.2 (List.length r_7.2) 2)) fun s_48 =>
                  (Option.bind (L.call 15 [.agg #[.int .i64 x_43, .int .i64 x_44, .slice s_45.1 s_45.2.1 s_45.2.2], .agg #[.int .i64 x_46, .int .i64 x_47, .slice s_48.1 s_48.2.1 s_48.2.2]] r_41.2) fun r_49 =>
                  (Option.bind (boolOf? (some r_49.1)) fun q_50 =>
                  (if q_50 = true
                  then (if (x23 == q_15) = true
                    then (Option.bind (L.call 17 [.agg #[.int .i64 0, .int .i64 0, .int .i64 0, .int .i64 x4], .int .i64 x3] []) fun r_51 =>
                      (Option.bind (intOf? .i64 (some r_51.1)) fun x_52 =>
                      (Option.bind (L.call 18 [.agg #[.int .i64 0, .int .i64 0, .int .i64 0, .int .i64 x4], .int .i64 x3] []) fun r_53 =>
                      (Option.bind (intOf? .i64 (some r_53.1)) fun x_54 =>
                      (if (x_52 == x_54) = true
                      then (Option.bind (L.call 5 [] []) fun r_55 =>
                        (Option.bind (boolOf? (some r_55.1)) fun q_56 =>
                        (if chkOk [(34, 33), (45, 44)] [(45, (List.length r_7.2)), (34, x20)] [(44, (r_36.2, r_41.2)), (33, (M_16, r_28.2))] = true
                        then some (.bool q_56, r_49.2)
                        else none)))
                      else (if chkOk [(34, 33), (45, 44)] [(45, (List.length r_7.2)), (34, x20)] [(44, (r_36.2, r_41.2)), (33, (M_16, r_28.2))] = true
                        then some (.bool false, r_49.2)
                        else none))))))
                    else (if chkOk [(34, 33), (45, 44)] [(45, (List.length r_7.2)), (34, x20)] [(44, (r_36.2, r_41.2)), (33, (M_16, r_28.2))] = true
                      then some (.bool false, r_49.2)
                      else none))
                  else (if chkOk [(34, 33), (45, 44)] [(45, (List.length r_7.2)), (34, x20)] [(44, (r_36.2, r_41.2)), (33, (M_16, r_28.2))] = true
                    then some (.bool false, r_49.2)
                    else none)))))))))))))))
                else (if chkOk [(34, 33), (45, 44)] [(45, (List.length r_7.2)), (34, x20)] [(44, (r_36.2, r_36.2)), (33, (M_16, r_28.2))] = true
                  then some (.bool false, r_36.2)
                  else none))
              else (if chkOk [(34, 33), (45, 44)] [(45, (List.length r_7.2)), (34, x20)] [(44, (r_36.2, r_36.2)), (33, (M_16, r_28.2))] = true
                then some (.bool false, r_36.2)
                else none)))))))))))))))
            else (if chkOk [(34, 33), (45, 44)] [(45, (List.length r_7.2)), (34, x20)] [(44, (M_16, M_16)), (33, (M_16, M_16))] = true
              then some (.bool false, M_16)
              else none))
          else (if chkOk [(34, 33), (45, 44)] [(45, (List.length r_7.2)), (34, x20)] [(44, (M_16, M_16)), (33, (M_16, M_16))] = true
            then some (.bool false, M_16)
            else none))))
        else (if chkOk [(34, 33), (45, 44)] [(45, (List.length r_7.2)), (34, x20)] [(44, (M_16, M_16)), (33, (M_16, M_16))] = true
          then some (.bool false, M_16)
          else none))))
      else (if chkOk [(34, 33), (45, 44)] [(45, (List.length r_7.2)), (34, x20)] [(44, (M_16, M_16)), (33, (M_16, M_16))] = true
        then some (.bool false, M_16)
        else none))))
    else (if chkOk [(34, 33), (45, 44)] [(45, (List.length r_7.2)), (34, x20)] [(44, (M_16, M_16)), (33, (M_16, M_16))] = true
      then some (.bool false, M_16)
      else none)))))))))))))))))))) := by
  subst hP3_51; kernel_rfl
theorem P3_51_eq (L : Rec) (x3 : Int) (x4 : Int) (x5 : Nat) (x6 : Nat) (x11 : Nat) (x12 : Bool) (x13 : Nat) (x14 : Bool) (x18 : Nat) (x19 : Bool) (x20 : Nat) (x21 : Bool) (x22 : Nat) (x23 : Bool) (M : AMem) : P3_51 L x3 x4 x5 x6 x11 x12 x13 x14 x18 x19 x20 x21 x22 x23 M =
  (Option.bind (intOf? .i64 (AMem.ld M x5 0)) fun x_1 =>
    (Option.bind (intOf? .i64 (AMem.ld M x5 1)) fun x_2 =>
    (Option.bind (sliceOf? (AMem.ld M x5 2)) fun s_3 =>
    (Option.bind (intOf? .i64 (AMem.ld M x6 0)) fun x_4 =>
    (Option.bind (intOf? .i64 (AMem.ld M x6 1)) fun x_5 =>
    (Option.bind (sliceOf? (AMem.ld M x6 2)) fun s_6 =>
    (Option.bind (L.call 14 [.agg #[.int .i64 x_1, .int .i64 x_2, .slice s_3.1 s_3.2.1 s_3.2.2], .agg #[.int .i64 x_4, .int .i64 x_5, .slice s_6.1 s_6.2.1 s_6.2.2], .int .i64 x3] M) fun r_7 =>
    (Option.bind (tupOf? 2 r_7.1) fun cs_8 =>
    (Option.bind (cs_8[0]?) fun u_9 =>
    (Option.bind (aggOf? 3 u_9) fun cs_10 =>
    (Option.bind (intOf? .i64 (cs_10[0]?)) fun x_11 =>
    (Option.bind (intOf? .i64 (cs_10[1]?)) fun x_12 =>
    (Option.bind (sliceOf? (cs_10[2]?)) fun s_13 =>
    (Option.bind (cs_8[1]?) fun u_14 =>
    (Option.bind (boolOf? (some u_14)) fun q_15 =>
    (Option.bind (AMem.wr (r_7.2 ++ [AObj.cells [.int .i64 0, .int .i64 0, .slice none 0 0] ⟨false, 0⟩]) (List.length r_7.2) 0 [.int .i64 x_11, .int .i64 x_12, .slice s_13.1 s_13.2.1 s_13.2.2]) fun M_16 =>
    (Option.bind (intOf? .i64 (AMem.ld M_16 x11 0)) fun x_17 =>
    (Option.bind (intOf? .i64 (AMem.ld M_16 x13 0)) fun x_18 =>
    (if (x_17 == x_18) = true
    then (Option.bind (intOf? .i64 (AMem.ld M_16 x11 1)) fun x_19 =>
      (Option.bind (intOf? .i64 (AMem.ld M_16 x13 1)) fun x_20 =>
      (if (x_19 == x_20) = true
      then (Option.bind (intOf? .i64 (AMem.ld M_16 x11 2)) fun x_21 =>
        (Option.bind (intOf? .i64 (AMem.ld M_16 x13 2)) fun x_22 =>
        (if (x_21 == x_22) = true
        then (Option.bind (intOf? .i64 (AMem.ld M_16 x11 3)) fun x_23 =>
          (Option.bind (intOf? .i64 (AMem.ld M_16 x13 3)) fun x_24 =>
          (if (x_23 == x_24) = true
          then (if (x12 == x14) = true
            then (Option.bind (intOf? .i64 (AMem.ld M_16 x18 0)) fun x_25 =>
              (Option.bind (intOf? .i64 (AMem.ld M_16 x18 1)) fun x_26 =>
              (Option.bind (sliceOf? (AMem.ld M_16 x18 2)) fun s_27 =>
              (Option.bind (L.call 16 [.agg #[.int .i64 x_25, .int .i64 x_26, .slice s_27.1 s_27.2.1 s_27.2.2]] M_16) fun r_28 =>
              (Option.bind (aggOf? 3 r_28.1) fun cs_29 =>
              (Option.bind (intOf? .i64 (cs_29[0]?)) fun x_30 =>
              (Option.bind (intOf? .i64 (cs_29[1]?)) fun x_31 =>
              (Option.bind (sliceOf? (cs_29[2]?)) fun s_32 =>
              (Option.bind (intOf? .i64 (AMem.ld r_28.2 x20 0)) fun x_33 =>
              (Option.bind (intOf? .i64 (AMem.ld r_28.2 x20 1)) fun x_34 =>
              (Option.bind (sliceOf? (AMem.ld r_28.2 x20 2)) fun s_35 =>
              (Option.bind (L.call 15 [.agg #[.int .i64 x_30, .int .i64 x_31, .slice s_32.1 s_32.2.1 s_32.2.2], .agg #[.int .i64 x_33, .int .i64 x_34, .slice s_35.1 s_35.2.1 s_35.2.2]] r_28.2) fun r_36 =>
              (Option.bind (boolOf? (some r_36.1)) fun q_37 =>
              (if q_37 = true
              then (if (x19 == x21) = true
                then (Option.bind (intOf? .i64 (AMem.ld r_36.2 x22 0)) fun x_38 =>
                  (Option.bind (intOf? .i64 (AMem.ld r_36.2 x22 1)) fun x_39 =>
                  (Option.bind (sliceOf? (AMem.ld r_36.2 x22 2)) fun s_40 =>
                  (Option.bind (L.call 16 [.agg #[.int .i64 x_38, .int .i64 x_39, .slice s_40.1 s_40.2.1 s_40.2.2]] r_36.2) fun r_41 =>
                  (Option.bind (aggOf? 3 r_41.1) fun cs_42 =>
                  (Option.bind (intOf? .i64 (cs_42[0]?)) fun x_43 =>
                  (Option.bind (intOf? .i64 (cs_42[1]?)) fun x_44 =>
                  (Option.bind (sliceOf? (cs_42[2]?)) fun s_45 =>
                  (Option.bind (intOf? .i64 (AMem.ld r_41.2 (List.length r_7.2) 0)) fun x_46 =>
                  (Option.bind (intOf? .i64 (AMem.ld r_41.2 (List.length r_7.2) 1)) fun x_47 =>
                  (Option.bind (sliceOf? (AMem.ld r_41.2 (List.length r_7.2) 2)) fun s_48 =>
                  (Option.bind (L.call 15 [.agg #[.int .i64 x_43, .int .i64 x_44, .slice s_45.1 s_45.2.1 s_45.2.2], .agg #[.int .i64 x_46, .int .i64 x_47, .slice s_48.1 s_48.2.1 s_48.2.2]] r_41.2) fun r_49 =>
                  (Option.bind (boolOf? (some r_49.1)) fun q_50 =>
                  (if q_50 = true
                  then (if (x23 == q_15) = true
                    then (Option.bind (L.call 17 [.agg #[.int .i64 0, .int .i64 0, .int .i64 0, .int .i64 x4], .int .i64 x3] []) fun r_51 =>
                      (Option.bind (intOf? .i64 (some r_51.1)) fun x_52 =>
                      (Option.bind (L.call 18 [.agg #[.int .i64 0, .int .i64 0, .int .i64 0, .int .i64 x4], .int .i64 x3] []) fun r_53 =>
                      (Option.bind (intOf? .i64 (some r_53.1)) fun x_54 =>
                      (if (x_52 == x_54) = true
                      then (Option.bind (L.call 5 [] []) fun r_55 =>
                        (Option.bind (boolOf? (some r_55.1)) fun q_56 =>
                        (if chkOk [(34, 33), (45, 44)] [(45, (List.length r_7.2)), (34, x20)] [(44, (r_36.2, r_41.2)), (33, (M_16, r_28.2))] = true
                        then some (.bool q_56, r_49.2)
                        else none)))
                      else (if chkOk [(34, 33), (45, 44)] [(45, (List.length r_7.2)), (34, x20)] [(44, (r_36.2, r_41.2)), (33, (M_16, r_28.2))] = true
                        then some (.bool false, r_49.2)
                        else none))))))
                    else (if chkOk [(34, 33), (45, 44)] [(45, (List.length r_7.2)), (34, x20)] [(44, (r_36.2, r_41.2)), (33, (M_16, r_28.2))] = true
                      then some (.bool false, r_49.2)
                      else none))
                  else (if chkOk [(34, 33), (45, 44)] [(45, (List.length r_7.2)), (34, x20)] [(44, (r_36.2, r_41.2)), (33, (M_16, r_28.2))] = true
                    then some (.bool false, r_49.2)
                    else none)))))))))))))))
                else (if chkOk [(34, 33), (45, 44)] [(45, (List.length r_7.2)), (34, x20)] [(44, (r_36.2, r_36.2)), (33, (M_16, r_28.2))] = true
                  then some (.bool false, r_36.2)
                  else none))
              else (if chkOk [(34, 33), (45, 44)] [(45, (List.length r_7.2)), (34, x20)] [(44, (r_36.2, r_36.2)), (33, (M_16, r_28.2))] = true
                then some (.bool false, r_36.2)
                else none)))))))))))))))
            else (if chkOk [(34, 33), (45, 44)] [(45, (List.length r_7.2)), (34, x20)] [(44, (M_16, M_16)), (33, (M_16, M_16))] = true
              then some (.bool false, M_16)
              else none))
          else (if chkOk [(34, 33), (45, 44)] [(45, (List.length r_7.2)), (34, x20)] [(44, (M_16, M_16)), (33, (M_16, M_16))] = true
            then some (.bool false, M_16)
            else none))))
        else (if chkOk [(34, 33), (45, 44)] [(45, (List.length r_7.2)), (34, x20)] [(44, (M_16, M_16)), (33, (M_16, M_16))] = true
          then some (.bool false, M_16)
          else none))))
      else (if chkOk [(34, 33), (45, 44)] [(45, (List.length r_7.2)), (34, x20)] [(44, (M_16, M_16)), (33, (M_16, M_16))] = true
        then some (.bool false, M_16)
        else none))))
    else (if chkOk [(34, 33), (45, 44)] [(45, (List.length r_7.2)), (34, x20)] [(44, (M_16, M_16)), (33, (M_16, M_16))] = true
      then some (.bool false, M_16)
      else none)))))))))))))))))))) := QP3_51_eq L P3_51 (Classical.choose_spec XP3_51) x3 x4 x5 x6 x11 x12 x13 x14 x18 x19 x20 x21 x22 x23 M
theorem QE3 (L : Rec) (c3_14 : ACode) (P3_14 : Rec → (Option Addr) → Nat → Nat → Int → Int → Nat → Nat → Nat → Bool → Nat → Bool → AMem → Res) (hP3_14 : P3_14 = fun (L : Rec) (x2 : Option Addr) (x2n : Nat) (x2c : Nat) (x3 : Int) (x4 : Int) (x5 : Nat) (x6 : Nat) (x11 : Nat) (x12 : Bool) (x13 : Nat) (x14 : Bool) (M : AMem) => code L c3_14 (retK [.tmp 10]) (s3_14 x2 x2n x2c x3 x4 x5 x6 x11 x12 x13 x14 M) M) (x0_0 : Int) (x0_1 : Int) (x0_2 : Option Addr) (x0_2n : Nat) (x0_2c : Nat) (x1_0 : Int) (x1_1 : Int) (x1_2 : Option Addr) (x1_2n : Nat) (x1_2c : Nat) (x2 : Option Addr) (x2n : Nat) (x2c : Nat) (x3 : Int) (x4 : Int) (M : AMem) : enterF L ⟨183, [.tmp 10], .seq (.ops o3_1) (.seq (.seq (.ops o3_4) (.cond (.tmp 40) (.seq (.ops o3_7) (.ret)) (.skip))) (.seq (.draw f3_11 0 o3_11 [(2, 1), (8, 1), (8, 3), (8, 4)]) (.seq (.ops o3_13) (.clear [0, 1, 7, 8, 9, 10, 15, 16, 17, 18, 19, 20, 21, 22, 23, 24, 25, 26, 27, 28, 29, 30, 31, 32, 33, 34, 35, 36, 37, 38, 39, 40, 41, 42, 43, 44, 45, 46, 47, 48, 49, 50, 51, 52, 53, 54, 55, 56, 57, 58, 59, 60, 61, 62, 63, 64, 65, 66, 67, 68, 69, 70, 71, 72, 73, 74, 75, 76, 77, 78, 79, 80, 81, 82, 83, 84, 85, 86, 87, 88, 89, 90, 91, 92, 93, 94, 95, 96, 97, 98, 99, 100, 101, 102, 103, 104, 105, 106, 107, 108, 109, 110, 111, 112, 113, 114, 115, 116, 117, 118, 119, 120, 121, 122, 123, 124, 125, 126, 127, 128, 129, 130, 131, 132, 133, 134, 135, 136, 137, 138, 139, 140, 141, 142, 143, 144, 145, 146, 147, 148, 149, 150, 151, 152, 153, 154, 155, 156, 157, 158, 159, 160, 161, 162, 163, 164, 165, 166, 167, 168, 169, 170, 171, 172, 173, 174, 175, 176, 177, 178, 179, 180, 181, 182] c3_14))))⟩ [.agg #[.int .i64 x0_0, .int .i64 x0_1, .slice x0_2 x0_2n x0_2c], .agg #[.int .i64 x1_0, .int .i64 x1_1, .slice x1_2 x1_2n x1_2c], .slice x2 x2n x2c, .int .i64 x3, .int .i64 x4] M =
  (Option.bind (sliceOf? (AMem.ld ((M ++ [AObj.cells [.int .i64 x0_0, .int .i64 x0_1, .slice x0_2 x0_2n x0_2c] ⟨false, 0⟩]) ++ [AObj.cells [.int .i64 x1_0, .int .i64 x1_1, .slice x1_2 x1_2n x1_2c] ⟨false, 0⟩]) (List.length M) 2)) fun s_1 =>
    (if (decide ((Int.ofNat s_1.2.1) > 30)) = true
    then (Option.bind (L.call 5 [] []) fun r_2 =>
      (Option.bind (boolOf? (some r_2.1)) fun q_3 =>
      some (.bool q_3, ((M ++ [AObj.cells [.int .i64 x0_0, .int .i64 x0_1, .slice x0_2 x0_2n x0_2c] ⟨false, 0⟩]) ++ [AObj.cells [.int .i64 x1_0, .int .i64 x1_1, .slice x1_2 x1_2n x1_2c] ⟨false, 0⟩]))))
    else (Option.bind (sliceOf? (AMem.ld ((M ++ [AObj.cells [.int .i64 x0_0, .int .i64 x0_1, .slice x0_2 x0_2n x0_2c] ⟨false, 0⟩]) ++ [AObj.cells [.int .i64 x1_0, .int .i64 x1_1, .slice x1_2 x1_2n x1_2c] ⟨false, 0⟩]) (List.length (M ++ [AObj.cells [.int .i64 x0_0, .int .i64 x0_1, .slice x0_2 x0_2n x0_2c] ⟨false, 0⟩])) 2)) fun s_4 =>
      (if (decide ((Int.ofNat s_4.2.1) > 30)) = true
      then (Option.bind (L.call 5 [] []) fun r_5 =>
        (Option.bind (boolOf? (some r_5.1)) fun q_6 =>
        some (.bool q_6, ((M ++ [AObj.cells [.int .i64 x0_0, .int .i64 x0_1, .slice x0_2 x0_2n x0_2c] ⟨false, 0⟩]) ++ [AObj.cells [.int .i64 x1_0, .int .i64 x1_1, .slice x1_2 x1_2n x1_2c] ⟨false, 0⟩]))))
      else (if (decide ((Int.ofNat x2n) > 20)) = true
        then (Option.bind (L.call 5 [] []) fun r_7 =>
          (Option.bind (boolOf? (some r_7.1)) fun q_8 =>
          some (.bool q_8, ((M ++ [AObj.cells [.int .i64 x0_0, .int .i64 x0_1, .slice x0_2 x0_2n x0_2c] ⟨false, 0⟩]) ++ [AObj.cells [.int .i64 x1_0, .int .i64 x1_1, .slice x1_2 x1_2n x1_2c] ⟨false, 0⟩]))))
        else (Option.bind (intOf? .i64 (AMem.ld (((M ++ [AObj.cells [.int .i64 x0_0, .int .i64 x0_1, .slice x0_2 x0_2n x0_2c] ⟨false, 0⟩]) ++ [AObj.cells [.int .i64 x1_0, .int .i64 x1_1, .slice x1_2 x1_2n x1_2c] ⟨false, 0⟩]) ++ [AObj.cells [.int .i64 0, .int .i64 0, .int .i64 0, .int .i64 0] ⟨false, 0⟩]) (List.length M) 0)) fun x_9 =>
          (Option.bind (intOf? .i64 (AMem.ld (((M ++ [AObj.cells [.int .i64 x0_0, .int .i64 x0_1, .slice x0_2 x0_2n x0_2c] ⟨false, 0⟩]) ++ [AObj.cells [.int .i64 x1_0, .int .i64 x1_1, .slice x1_2 x1_2n x1_2c] ⟨false, 0⟩]) ++ [AObj.cells [.int .i64 0, .int .i64 0, .int .i64 0, .int .i64 0] ⟨false, 0⟩]) (List.length M) 1)) fun x_10 =>
          (Option.bind (sliceOf? (AMem.ld (((M ++ [AObj.cells [.int .i64 x0_0, .int .i64 x0_1, .slice x0_2 x0_2n x0_2c] ⟨false, 0⟩]) ++ [AObj.cells [.int .i64 x1_0, .int .i64 x1_1, .slice x1_2 x1_2n x1_2c] ⟨false, 0⟩]) ++ [AObj.cells [.int .i64 0, .int .i64 0, .int .i64 0, .int .i64 0] ⟨false, 0⟩]) (List.length M) 2)) fun s_11 =>
          (Option.bind (L.call 7 [.agg #[.int .i64 x_9, .int .i64 x_10, .slice s_11.1 s_11.2.1 s_11.2.2]] (((M ++ [AObj.cells [.int .i64 x0_0, .int .i64 x0_1, .slice x0_2 x0_2n x0_2c] ⟨false, 0⟩]) ++ [AObj.cells [.int .i64 x1_0, .int .i64 x1_1, .slice x1_2 x1_2n x1_2c] ⟨false, 0⟩]) ++ [AObj.cells [.int .i64 0, .int .i64 0, .int .i64 0, .int .i64 0] ⟨false, 0⟩])) fun r_12 =>
          (Option.bind (aggOf? 3 r_12.1) fun cs_13 =>
          (Option.bind (intOf? .i64 (cs_13[0]?)) fun x_14 =>
          (Option.bind (intOf? .i64 (cs_13[1]?)) fun x_15 =>
          (Option.bind (sliceOf? (cs_13[2]?)) fun s_16 =>
          (Option.bind (intOf? .i64 (AMem.ld r_12.2 (List.length (M ++ [AObj.cells [.int .i64 x0_0, .int .i64 x0_1, .slice x0_2 x0_2n x0_2c] ⟨false, 0⟩])) 0)) fun x_17 =>
          (Option.bind (intOf? .i64 (AMem.ld r_12.2 (List.length (M ++ [AObj.cells [.int .i64 x0_0, .int .i64 x0_1, .slice x0_2 x0_2n x0_2c] ⟨false, 0⟩])) 1)) fun x_18 =>
          (Option.bind (sliceOf? (AMem.ld r_12.2 (List.length (M ++ [AObj.cells [.int .i64 x0_0, .int .i64 x0_1, .slice x0_2 x0_2n x0_2c] ⟨false, 0⟩])) 2)) fun s_19 =>
          (Option.bind (L.call 7 [.agg #[.int .i64 x_17, .int .i64 x_18, .slice s_19.1 s_19.2.1 s_19.2.2]] r_12.2) fun r_20 =>
          (Option.bind (aggOf? 3 r_20.1) fun cs_21 =>
          (Option.bind (intOf? .i64 (cs_21[0]?)) fun x_22 =>
          (Option.bind (intOf? .i64 (cs_21[1]?)) fun x_23 =>
          (Option.bind (sliceOf? (cs_21[2]?)) fun s_24 =>
          (Option.bind (L.call 6 [.agg #[.int .i64 x_14, .int .i64 x_15, .slice s_16.1 s_16.2.1 s_16.2.2], .agg #[.int .i64 x_22, .int .i64 x_23, .slice s_24.1 s_24.2.1 s_24.2.2]] r_20.2) fun r_25 =>
          (Option.bind (tupOf? 2 r_25.1) fun cs_26 =>
          (Option.bind (cs_26[0]?) fun u_27 =>
          (Option.bind (aggOf? 4 u_27) fun cs_28 =>
          (Option.bind (intOf? .i64 (cs_28[0]?)) fun x_29 =>
          (Option.bind (intOf? .i64 (cs_28[1]?)) fun x_30 =>
          (Option.bind (intOf? .i64 (cs_28[2]?)) fun x_31 =>
          (Option.bind (intOf? .i64 (cs_28[3]?)) fun x_32 =>
          (Option.bind (cs_26[1]?) fun u_33 =>
          (Option.bind (boolOf? (some u_33)) fun q_34 =>
          (Option.bind (AMem.wr r_25.2 (List.length ((M ++ [AObj.cells [.int .i64 x0_0, .int .i64 x0_1, .slice x0_2 x0_2n x0_2c] ⟨false, 0⟩]) ++ [AObj.cells [.int .i64 x1_0, .int .i64 x1_1, .slice x1_2 x1_2n x1_2c] ⟨false, 0⟩])) 0 [.int .i64 x_29, .int .i64 x_30, .int .i64 x_31, .int .i64 x_32]) fun M_35 =>
          (if chkOk [(2, 1), (8, 1), (8, 3), (8, 4)] [(8, (List.length ((M ++ [AObj.cells [.int .i64 x0_0, .int .i64 x0_1, .slice x0_2 x0_2n x0_2c] ⟨false, 0⟩]) ++ [AObj.cells [.int .i64 x1_0, .int .i64 x1_1, .slice x1_2 x1_2n x1_2c] ⟨false, 0⟩]))), (2, (List.length (M ++ [AObj.cells [.int .i64 x0_0, .int .i64 x0_1, .slice x0_2 x0_2n x0_2c] ⟨false, 0⟩])))] [(4, (r_20.2, r_25.2)), (3, (r_12.2, r_20.2)), (1, ((((M ++ [AObj.cells [.int .i64 x0_0, .int .i64 x0_1, .slice x0_2 x0_2n x0_2c] ⟨false, 0⟩]) ++ [AObj.cells [.int .i64 x1_0, .int .i64 x1_1, .slice x1_2 x1_2n x1_2c] ⟨false, 0⟩]) ++ [AObj.cells [.int .i64 0, .int .i64 0, .int .i64 0, .int .i64 0] ⟨false, 0⟩]), r_12.2))] = true
          then (Option.bind (intOf? .i64 (AMem.ld M_35 (List.length M) 0)) fun x_36 =>
            (Option.bind (intOf? .i64 (AMem.ld M_35 (List.length M) 1)) fun x_37 =>
            (Option.bind (sliceOf? (AMem.ld M_35 (List.length M) 2)) fun s_38 =>
            (Option.bind (intOf? .i64 (AMem.ld M_35 (List.length (M ++ [AObj.cells [.int .i64 x0_0, .int .i64 x0_1, .slice x0_2 x0_2n x0_2c] ⟨false, 0⟩])) 0)) fun x_39 =>
            (Option.bind (intOf? .i64 (AMem.ld M_35 (List.length (M ++ [AObj.cells [.int .i64 x0_0, .int .i64 x0_1, .slice x0_2 x0_2n x0_2c] ⟨false, 0⟩])) 1)) fun x_40 =>
            (Option.bind (sliceOf? (AMem.ld M_35 (List.length (M ++ [AObj.cells [.int .i64 x0_0, .int .i64 x0_1, .slice x0_2 x0_2n x0_2c] ⟨false, 0⟩])) 2)) fun s_41 =>
            (Option.bind (L.call 8 [.agg #[.int .i64 x_36, .int .i64 x_37, .slice s_38.1 s_38.2.1 s_38.2.2], .agg #[.int .i64 x_39, .int .i64 x_40, .slice s_41.1 s_41.2.1 s_41.2.2]] M_35) fun r_42 =>
            (Option.bind (tupOf? 2 r_42.1) fun cs_43 =>
            (Option.bind (cs_43[0]?) fun u_44 =>
            (Option.bind (aggOf? 4 u_44) fun cs_45 =>
            (Option.bind (intOf? .i64 (cs_45[0]?)) fun x_46 =>
            (Option.bind (intOf? .i64 (cs_45[1]?)) fun x_47 =>
            (Option.bind (intOf? .i64 (cs_45[2]?)) fun x_48 =>
            (Option.bind (intOf? .i64 (cs_45[3]?)) fun x_49 =>
            (Option.bind (cs_43[1]?) fun u_50 =>
            (Option.bind (boolOf? (some u_50)) fun q_51 =>
            (Option.bind (AMem.wr (r_42.2 ++ [AObj.cells [.int .i64 0, .int .i64 0, .int .i64 0, .int .i64 0] ⟨false, 0⟩]) (List.length r_42.2) 0 [.int .i64 x_46, .int .i64 x_47, .int .i64 x_48, .int .i64 x_49]) fun M_52 =>
            P3_14 L x2 x2n x2c x3 x4 (List.length M) (List.length (M ++ [AObj.cells [.int .i64 x0_0, .int .i64 x0_1, .slice x0_2 x0_2n x0_2c] ⟨false, 0⟩])) (List.length ((M ++ [AObj.cells [.int .i64 x0_0, .int .i64 x0_1, .slice x0_2 x0_2n x0_2c] ⟨false, 0⟩]) ++ [AObj.cells [.int .i64 x1_0, .int .i64 x1_1, .slice x1_2 x1_2n x1_2c] ⟨false, 0⟩])) q_34 (List.length r_42.2) q_51 M_52)))))))))))))))))
          else none))))))))))))))))))))))))))))))))) := by
  subst hP3_14; kernel_rfl
theorem E3 (L : Rec) (x0_0 : Int) (x0_1 : Int) (x0_2 : Option Addr) (x0_2n : Nat) (x0_2c : Nat) (x1_0 : Int) (x1_1 : Int) (x1_2 : Option Addr) (x1_2n : Nat) (x1_2c : Nat) (x2 : Option Addr) (x2n : Nat) (x2c : Nat) (x3 : Int) (x4 : Int) (M : AMem) : enterF L a3 [.agg #[.int .i64 x0_0, .int .i64 x0_1, .slice x0_2 x0_2n x0_2c], .agg #[.int .i64 x1_0, .int .i64 x1_1, .slice x1_2 x1_2n x1_2c], .slice x2 x2n x2c, .int .i64 x3, .int .i64 x4] M =
  (Option.bind (sliceOf? (AMem.ld ((M ++ [AObj.cells [.int .i64 x0_0, .int .i64 x0_1, .slice x0_2 x0_2n x0_2c] ⟨false, 0⟩]) ++ [AObj.cells [.int .i64 x1_0, .int .i64 x1_1, .slice x1_2 x1_2n x1_2c] ⟨false, 0⟩]) (List.length M) 2)) fun s_1 =>
    (if (decide ((Int.ofNat s_1.2.1) > 30)) = true
    then (Option.bind (L.call 5 [] []) fun r_2 =>
      (Option.bind (boolOf? (some r_2.1)) fun q_3 =>
      some (.bool q_3, ((M ++ [AObj.cells [.int .i64 x0_0, .int .i64 x0_1, .slice x0_2 x0_2n x0_2c] ⟨false, 0⟩]) ++ [AObj.cells [.int .i64 x1_0, .int .i64 x1_1, .slice x1_2 x1_2n x1_2c] ⟨false, 0⟩]))))
    else (Option.bind (sliceOf? (AMem.ld ((M ++ [AObj.cells [.int .i64 x0_0, .int .i64 x0_1, .slice x0_2 x0_2n x0_2c] ⟨false, 0⟩]) ++ [AObj.cells [.int .i64 x1_0, .int .i64 x1_1, .slice x1_2 x1_2n x1_2c] ⟨false, 0⟩]) (List.length (M ++ [AObj.cells [.int .i64 x0_0, .int .i64 x0_1, .slice x0_2 x0_2n x0_2c] ⟨false, 0⟩])) 2)) fun s_4 =>
      (if (decide ((Int.ofNat s_4.2.1) > 30)) = true
      then (Option.bind (L.call 5 [] []) fun r_5 =>
        (Option.bind (boolOf? (some r_5.1)) fun q_6 =>
        some (.bool q_6, ((M ++ [AObj.cells [.int .i64 x0_0, .int .i64 x0_1, .slice x0_2 x0_2n x0_2c] ⟨false, 0⟩]) ++ [AObj.cells [.int .i64 x1_0, .int .i64 x1_1, .slice x1_2 x1_2n x1_2c] ⟨false, 0⟩]))))
      else (if (decide ((Int.ofNat x2n) > 20)) = true
        then (Option.bind (L.call 5 [] []) fun r_7 =>
          (Option.bind (boolOf? (some r_7.1)) fun q_8 =>
          some (.bool q_8, ((M ++ [AObj.cells [.int .i64 x0_0, .int .i64 x0_1, .slice x0_2 x0_2n x0_2c] ⟨false, 0⟩]) ++ [AObj.cells [.int .i64 x1_0, .int .i64 x1_1, .slice x1_2 x1_2n x1_2c] ⟨false, 0⟩]))))
        else (Option.bind (intOf? .i64 (AMem.ld (((M ++ [AObj.cells [.int .i64 x0_0, .int .i64 x0_1, .slice x0_2 x0_2n x0_2c] ⟨false, 0⟩]) ++ [AObj.cells [.int .i64 x1_0, .int .i64 x1_1, .slice x1_2 x1_2n x1_2c] ⟨false, 0⟩]) ++ [AObj.cells [.int .i64 0, .int .i64 0, .int .i64 0, .int .i64 0] ⟨false, 0⟩]) (List.length M) 0)) fun x_9 =>
          (Option.bind (intOf? .i64 (AMem.ld (((M ++ [AObj.cells [.int .i64 x0_0, .int .i64 x0_1, .slice x0_2 x0_2n x0_2c] ⟨false, 0⟩]) ++ [AObj.cells [.int .i64 x1_0, .int .i64 x1_1, .slice x1_2 x1_2n x1_2c] ⟨false, 0⟩]) ++ [AObj.cells [.int .i64 0, .int .i64 0, .int .i64 0, .int .i64 0] ⟨false, 0⟩]) (List.length M) 1)) fun x_10 =>
          (Option.bind (sliceOf? (AMem.ld (((M ++ [AObj.cells [.int .i64 x0_0, .int .i64 x0_1, .slice x0_2 x0_2n x0_2c] ⟨false, 0⟩]) ++ [AObj.cells [.int .i64 x1_0, .int .i64 x1_1, .slice x1_2 x1_2n x1_2c] ⟨false, 0⟩]) ++ [AObj.cells [.int .i64 0, .int .i64 0, .int .i64 0, .int .i64 0] ⟨false, 0⟩]) (List.length M) 2)) fun s_11 =>
          (Option.bind (L.call 7 [.agg #[.int .i64 x_9, .int .i64 x_10, .slice s_11.1 s_11.2.1 s_11.2.2]] (((M ++ [AObj.cells [.int .i64 x0_0, .int .i64 x0_1, .slice x0_2 x0_2n x0_2c] ⟨false, 0⟩]) ++ [AObj.cells [.int .i64 x1_0, .int .i64 x1_1, .slice x1_2 x1_2n x1_2c] ⟨false, 0⟩]) ++ [AObj.cells [.int .i64 0, .int .i64 0, .int .i64 0, .int .i64 0] ⟨false, 0⟩])) fun r_12 =>
          (Option.bind (aggOf? 3 r_12.1) fun cs_13 =>
          (Option.bind (intOf? .i64 (cs_13[0]?)) fun x_14 =>
          (Option.bind (intOf? .i64 (cs_13[1]?)) fun x_15 =>
          (Option.bind (sliceOf? (cs_13[2]?)) fun s_16 =>
          (Option.bind (intOf? .i64 (AMem.ld r_12.2 (List.length (M ++ [AObj.cells [.int .i64 x0_0, .int .i64 x0_1, .slice x0_2 x0_2n x0_2c] ⟨false, 0⟩])) 0)) fun x_17 =>
          (Option.bind (intOf? .i64 (AMem.ld r_12.2 (List.length (M ++ [AObj.cells [.int .i64 x0_0, .int .i64 x0_1, .slice x0_2 x0_2n x0_2c] ⟨false, 0⟩])) 1)) fun x_18 =>
          (Option.bind (sliceOf? (AMem.ld r_12.2 (List.length (M ++ [AObj.cells [.int .i64 x0_0, .int .i64 x0_1, .slice x0_2 x0_2n x0_2c] ⟨false, 0⟩])) 2)) fun s_19 =>
          (Option.bind (L.call 7 [.agg #[.int .i64 x_17, .int .i64 x_18, .slice s_19.1 s_19.2.1 s_19.2.2]] r_12.2) fun r_20 =>
          (Option.bind (aggOf? 3 r_20.1) fun cs_21 =>
          (Option.bind (intOf? .i64 (cs_21[0]?)) fun x_22 =>
          (Option.bind (intOf? .i64 (cs_21[1]?)) fun x_23 =>
          (Option.bind (sliceOf? (cs_21[2]?)) fun s_24 =>
          (Option.bind (L.call 6 [.agg #[.int .i64 x_14, .int .i64 x_15, .slice s_16.1 s_16.2.1 s_16.2.2], .agg #[.int .i64 x_22, .int .i64 x_23, .slice s_24.1 s_24.2.1 s_24.2.2]] r_20.2) fun r_25 =>
          (Option.bind (tupOf? 2 r_25.1) fun cs_26 =>
          (Option.bind (cs_26[0]?) fun u_27 =>
          (Option.bind (aggOf? 4 u_27) fun cs_28 =>
          (Option.bind (intOf? .i64 (cs_28[0]?)) fun x_29 =>
          (Option.bind (intOf? .i64 (cs_28[1]?)) fun x_30 =>
          (Option.bind (intOf? .i64 (cs_28[2]?)) fun x_31 =>
          (Option.bind (intOf? .i64 (cs_28[3]?)) fun x_32 =>
          (Option.bind (cs_26[1]?) fun u_33 =>
          (Option.bind (boolOf? (some u_33)) fun q_34 =>
          (Option.bind (AMem.wr r_25.2 (List.length ((M ++ [AObj.cells [.int .i64 x0_0, .int .i64 x0_1, .slice x0_2 x0_2n x0_2c] ⟨false, 0⟩]) ++ [AObj.cells [.int .i64 x1_0, .int .i64 x1_1, .slice x1_2 x1_2n x1_2c] ⟨false, 0⟩])) 0 [.int .i64 x_29, .int .i64 x_30, .int .i64 x_31, .int .i64 x_32]) fun M_35 =>
          (if chkOk [(2, 1), (8, 1), (8, 3), (8, 4)] [(8, (List.length ((M ++ [AObj.cells [.int .i64 x0_0, .int .i64 x0_1, .slice x0_2 x0_2n x0_2c] ⟨false, 0⟩]) ++ [AObj.cells [.int .i64 x1_0, .int .i64 x1_1, .slice x1_2 x1_2n x1_2c] ⟨false, 0⟩]))), (2, (List.length (M ++ [AObj.cells [.int .i64 x0_0, .int .i64 x0_1, .slice x0_2 x0_2n x0_2c] ⟨false, 0⟩])))] [(4, (r_20.2, r_25.2)), (3, (r_12.2, r_20.2)), (1, ((((M ++ [AObj.cells [.int .i64 x0_0, .int .i64 x0_1, .slice x0_2 x0_2n x0_2c] ⟨false, 0⟩]) ++ [AObj.cells [.int .i64 x1_0, .int .i64 x1_1, .slice x1_2 x1_2n x1_2c] ⟨false, 0⟩]) ++ [AObj.cells [.int .i64 0, .int .i64 0, .int .i64 0, .int .i64 0] ⟨false, 0⟩]), r_12.2))] = true
          then (Option.bind (intOf? .i64 (AMem.ld M_35 (List.length M) 0)) fun x_36 =>
            (Option.bind (intOf? .i64 (AMem.ld M_35 (List.length M) 1)) fun x_37 =>
            (Option.bind (sliceOf? (AMem.ld M_35 (List.length M) 2)) fun s_38 =>
            (Option.bind (intOf? .i64 (AMem.ld M_35 (List.length (M ++ [AObj.cells [.int .i64 x0_0, .int .i64 x0_1, .slice x0_2 x0_2n x0_2c] ⟨false, 0⟩])) 0)) fun x_39 =>
            (Option.bind (intOf? .i64 (AMem.ld M_35 (List.length (M ++ [AObj.cells [.int .i64 x0_0, .int .i64 x0_1, .slice x0_2 x0_2n x0_2c] ⟨false, 0⟩])) 1)) fun x_40 =>
            (Option.bind (sliceOf? (AMem.ld M_35 (List.length (M ++ [AObj.cells [.int .i64 x0_0, .int .i64 x0_1, .slice x0_2 x0_2n x0_2c] ⟨false, 0⟩])) 2)) fun s_41 =>
            (Option.bind (L.call 8 [.agg #[.int .i64 x_36, .int .i64 x_37, .slice s_38.1 s_38.2.1 s_38.2.2], .agg #[.int .i64 x_39, .int .i64 x_40, .slice s_41.1 s_41.2.1 s_41.2.2]] M_35) fun r_42 =>
            (Option.bind (tupOf? 2 r_42.1) fun cs_43 =>
            (Option.bind (cs_43[0]?) fun u_44 =>
            (Option.bind (aggOf? 4 u_44) fun cs_45 =>
            (Option.bind (intOf? .i64 (cs_45[0]?)) fun x_46 =>
            (Option.bind (intOf? .i64 (cs_45[1]?)) fun x_47 =>
            (Option.bind (intOf? .i64 (cs_45[2]?)) fun x_48 =>
            (Option.bind (intOf? .i64 (cs_45[3]?)) fun x_49 =>
            (Option.bind (cs_43[1]?) fun u_50 =>
            (Option.bind (boolOf? (some u_50)) fun q_51 =>
            (Option.bind (AMem.wr (r_42.2 ++ [AObj.cells [.int .i64 0, .int .i64 0, .int .i64 0, .int .i64 0] ⟨false, 0⟩]) (List.length r_42.2) 0 [.int .i64 x_46, .int .i64 x_47, .int .i64 x_48, .int .i64 x_49]) fun M_52 =>
            P3_14 L x2 x2n x2c x3 x4 (List.length M) (List.length (M ++ [AObj.cells [.int .i64 x0_0, .int .i64 x0_1, .slice x0_2 x0_2n x0_2c] ⟨false, 0⟩])) (List.length ((M ++ [AObj.cells [.int .i64 x0_0, .int .i64 x0_1, .slice x0_2 x0_2n x0_2c] ⟨false, 0⟩]) ++ [AObj.cells [.int .i64 x1_0, .int .i64 x1_1, .slice x1_2 x1_2n x1_2c] ⟨false, 0⟩])) q_34 (List.length r_42.2) q_51 M_52)))))))))))))))))
          else none))))))))))))))))))))))))))))))))) := QE3 L c3_14 P3_14 (Classical.choose_spec XP3_14) x0_0 x0_1 x0_2 x0_2n x0_2c x1_0 x1_1 x1_2 x1_2n x1_2c x2 x2n x2c x3 x4 M
end Go.Proofs.Ytkjgmcjdblhkeaa
