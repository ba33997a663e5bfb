/- What the pieces of some functions come to. -/
import Derived.Test.YtkjgmcjdblhkeaaCode
set_option linter.unusedVariables false
set_option maxRecDepth 100000
namespace Go.Proofs.Ytkjgmcjdblhkeaa
open Go Go.Ax
/-! #### skylightlaw49.DiffThree -/
noncomputable def k4_12 (L : Rec) : KT := retK [.tmp 8]
def s4_12 (x3 : Int) (x4 : Nat) (x5 : Nat) (x6 : Nat) (x9 : Nat) (x10 : Bool) (M : AMem) : List Value := [junk, junk, junk, .int .u16 x3, .pointer (some ⟨x4, 0, none⟩), .pointer (some ⟨x5, 0, none⟩), .pointer (some ⟨x6, 0, none⟩), junk, junk, .pointer (some ⟨x9, 0, none⟩), .bool x10, junk, junk, junk, junk, junk, junk, junk, junk, junk, junk, junk, junk, junk, junk, junk, junk, junk, junk, junk, junk, junk, junk, junk, junk, junk, junk, junk, junk, junk, junk, junk, junk, junk, junk, junk, junk, junk, junk, junk, junk, junk, junk, junk, junk, junk, junk, junk, junk, junk, junk, junk, junk, junk, junk, junk, junk, junk, junk, junk, junk, junk, junk, junk, junk, junk, junk, junk, junk, junk, junk, junk, junk, junk, junk, junk, junk, junk, junk, junk, junk, junk, junk, junk, junk, junk, junk, junk, junk, junk, junk, junk, junk, junk, junk, junk, junk, junk, junk, junk, junk, junk, junk, junk, junk, junk, junk, junk, junk, junk, junk, junk, junk, junk, junk, junk, junk, junk, junk, junk, junk, junk, junk, junk, junk, junk, junk, junk, junk, junk, junk, junk, junk, junk, junk, junk, junk, junk, junk, junk, junk, junk, junk, junk, junk, junk, junk, junk, junk, junk, junk, junk, junk, junk, junk, junk, junk, junk, junk, junk, junk, junk, junk, junk, junk, junk, junk, junk, junk, junk, junk, junk, junk, junk, junk, junk, junk, junk, junk, junk, junk, junk, junk, junk, junk, junk, junk, junk, junk, junk, junk, junk, junk, junk, junk, junk, junk, junk, junk, junk, junk, junk, junk, junk, junk, junk, junk, junk, junk, junk, junk, junk, junk, junk, junk, junk, junk, junk, junk, junk, junk, junk, junk, junk, junk, junk, junk, junk, junk, junk, junk, junk, junk, junk, junk, junk, junk, junk, junk, junk, junk, junk, junk, junk, junk, junk, junk, junk, junk]
theorem XP4_12 : ∃ P : Rec → Int → Nat → Nat → Nat → Nat → Bool → AMem → Res, P = fun (L : Rec) (x3 : Int) (x4 : Nat) (x5 : Nat) (x6 : Nat) (x9 : Nat) (x10 : Bool) (M : AMem) => code L c4_12 (k4_12 L) (s4_12 x3 x4 x5 x6 x9 x10 M) M := ⟨_, rfl⟩
noncomputable def P4_12 : Rec → Int → Nat → Nat → Nat → Nat → Bool → AMem → Res := Classical.choose XP4_12
noncomputable def k4_16 (L : Rec) : KT := retK [.tmp 8]
def s4_16 (x3 : Int) (x4 : Nat) (x5 : Nat) (x6 : Nat) (x9 : Nat) (x10 : Bool) (x11 : Nat) (x12 : Bool) (x13 : Nat) (x14 : Bool) (M : AMem) : List Value := [junk, junk, junk, .int .u16 x3, .pointer (some ⟨x4, 0, none⟩), .pointer (some ⟨x5, 0, none⟩), .pointer (some ⟨x6, 0, none⟩), junk, junk, .pointer (some ⟨x9, 0, none⟩), .bool x10, .pointer (some ⟨x11, 0, none⟩), .bool x12, .pointer (some ⟨x13, 0, none⟩), .bool x14, junk, junk, junk, junk, junk, junk, junk, junk, junk, junk, junk, junk, junk, junk, junk, junk, junk, junk, junk, junk, junk, junk, junk, junk, junk, junk, junk, junk, junk, junk, junk, junk, junk, junk, junk, junk, junk, junk, junk, junk, junk, junk, junk, junk, junk, junk, junk, junk, junk, junk, junk, junk, junk, junk, junk, junk, junk, junk, junk, junk, junk, junk, junk, junk, junk, junk, junk, junk, junk, junk, junk, junk, junk, junk, junk, junk, junk, junk, junk, junk, junk, junk, junk, junk, junk, junk, junk, junk, junk, junk, junk, junk, junk, junk, junk, junk, junk, junk, junk, junk, junk, junk, junk, junk, junk, junk, junk, junk, junk, junk, junk, junk, junk, junk, junk, junk, junk, junk, junk, junk, junk, junk, junk, junk, junk, junk, junk, junk, junk, junk, junk, junk, junk, junk, junk, junk, junk, junk, junk, junk, junk, junk, junk, junk, junk, junk, junk, junk, junk, junk, junk, junk, junk, junk, junk, junk, junk, junk, junk, junk, junk, junk, junk, junk, junk, junk, junk, junk, junk, junk, junk, junk, junk, junk, junk, junk, junk, junk, junk, junk, junk, junk, junk, junk, junk, junk, junk, junk, junk, junk, junk, junk, junk, junk, junk, junk, junk, junk, junk, junk, junk, junk, junk, junk, junk, junk, junk, junk, junk, junk, junk, junk, junk, junk, junk, junk, junk, junk, junk, junk, junk, junk, junk, junk, junk, junk, junk, junk, junk, junk, junk, junk, junk, junk, junk, junk, junk, junk, junk, junk, junk, junk, junk, junk]
theorem XP4_16 : ∃ P : Rec → Int → Nat → Nat → Nat → Nat → Bool → Nat → Bool → Nat → Bool → AMem → Res, P = fun (L : Rec) (x3 : Int) (x4 : Nat) (x5 : Nat) (x6 : Nat) (x9 : Nat) (x10 : Bool) (x11 : Nat) (x12 : Bool) (x13 : Nat) (x14 : Bool) (M : AMem) => code L c4_16 (k4_16 L) (s4_16 x3 x4 x5 x6 x9 x10 x11 x12 x13 x14 M) M := ⟨_, rfl⟩
noncomputable def P4_16 : Rec → Int → Nat → Nat → Nat → Nat → Bool → Nat → Bool → Nat → Bool → AMem → Res := Classical.choose XP4_16
noncomputable def k4_21 (L : Rec) : KT := seqK (code L (.seq (.draw f4_27 0 o4_27 [(2, 1), (4, 1), (4, 3), (7, 1), (7, 3), (7, 5), (7, 6), (13, 1), (13, 3), (13, 5), (13, 6), (13, 8), (13, 9)]) (.seq (.draw f4_29 0 o4_29 [(2, 1), (8, 1), (8, 3), (8, 4)]) (.clear [0, 1, 2, 6, 7, 8, 10, 11, 12, 13, 14, 15, 16, 20, 21, 22, 23, 24, 25, 26, 27, 28, 29, 30, 31, 32, 33, 34, 35, 36, 37, 38, 39, 40, 41, 42, 43, 44, 45, 46, 47, 48, 49, 50, 51, 52, 53, 54, 55, 56, 57, 58, 59, 60, 61, 62, 63, 64, 65, 66, 67, 68, 69, 70, 71, 72, 73, 74, 75, 76, 77, 78, 79, 80, 81, 82, 83, 84, 85, 86, 87, 88, 89, 90, 91, 92, 93, 94, 95, 96, 97, 98, 99, 100, 101, 102, 103, 104, 105, 106, 107, 108, 109, 110, 111, 112, 113, 114, 115, 116, 117, 118, 119, 120, 121, 122, 123, 124, 125, 126, 127, 128, 129, 130, 131, 132, 133, 134, 135, 136, 137, 138, 139, 140, 141, 142, 143, 144, 145, 146, 147, 148, 149, 150, 151, 152, 153, 154, 155, 156, 157, 158, 159, 160, 161, 162, 163, 164, 165, 166, 167, 168, 169, 170, 171, 172, 173, 174, 175, 176, 177, 178, 179, 180, 181, 182, 183, 184, 185, 186, 187, 188, 189, 190, 191, 192, 193, 194, 195, 196, 197, 198, 199, 200, 201, 202, 203, 204, 205, 206, 207, 208, 209, 210, 211, 212, 213, 214, 215, 216, 217, 218, 219, 220, 221, 222, 223, 224, 225, 226, 227, 228, 229, 230, 231, 232, 233, 234, 235, 236, 237, 238, 239, 240, 241, 242, 243, 244, 245, 246, 247, 248, 249, 250, 251, 252, 253, 254, 255, 256, 257, 258] c4_30))) (retK [.tmp 8])) (retK [.tmp 8])
def s4_21 (x3 : Int) (x4 : Nat) (x5 : Nat) (x9 : Nat) (x135 : Bool) (M : AMem) : List Value := [junk, junk, junk, .int .u16 x3, .pointer (some ⟨x4, 0, none⟩), .pointer (some ⟨x5, 0, none⟩), junk, junk, junk, .pointer (some ⟨x9, 0, none⟩), junk, junk, junk, junk, junk, junk, junk, junk, junk, junk, junk, junk, junk, junk, junk, junk, junk, junk, junk, junk, junk, junk, junk, junk, junk, junk, junk, junk, junk, junk, junk, junk, junk, junk, junk, junk, junk, junk, junk, junk, junk, junk, junk, junk, junk, junk, junk, junk, junk, junk, junk, junk, junk, junk, junk, junk, junk, junk, junk, junk, junk, junk, junk, junk, junk, junk, junk, junk, junk, junk, junk, junk, junk, junk, junk, junk, junk, junk, junk, junk, junk, junk, junk, junk, junk, junk, junk, junk, junk, junk, junk, junk, junk, junk, junk, junk, junk, junk, junk, junk, junk, junk, junk, junk, junk, junk, junk, junk, junk, junk, junk, junk, junk, junk, junk, junk, junk, junk, junk, junk, junk, junk, junk, junk, junk, .bool x135, junk, junk, junk, junk, junk, junk, junk, junk, junk, junk, junk, junk, junk, junk, junk, junk, junk, junk, junk, junk, junk, junk, junk, junk, junk, junk, junk, junk, junk, junk, junk, junk, junk, junk, junk, junk, junk, junk, junk, junk, junk, junk, junk, junk, junk, junk, junk, junk, junk, junk, junk, junk, junk, junk, junk, junk, junk, junk, junk, junk, junk, junk, junk, junk, junk, junk, junk, junk, junk, junk, junk, junk, junk, junk, junk, junk, junk, junk, junk, junk, junk, junk, junk, junk, junk, junk, junk, junk, junk, junk, junk, junk, junk, junk, junk, junk, junk, junk, junk, junk, junk, junk, junk, junk, junk, junk, junk, junk, junk, junk, junk, junk, junk, junk, junk, junk, junk, junk, junk, junk, junk, junk, junk]
theorem XP4_21 : ∃ P : Rec → Int → Nat → Nat → Nat → Bool → AMem → Res, P = fun (L : Rec) (x3 : Int) (x4 : Nat) (x5 : Nat) (x9 : Nat) (x135 : Bool) (M : AMem) => code L c4_21 (k4_21 L) (s4_21 x3 x4 x5 x9 x135 M) M := ⟨_, rfl⟩
noncomputable def P4_21 : Rec → Int → Nat → Nat → Nat → Bool → AMem → Res := Classical.choose XP4_21
noncomputable def k4_30 (L : Rec) : KT := retK [.tmp 8]
def s4_30 (x3 : Int) (x4 : Nat) (x5 : Nat) (x9 : Nat) (x17 : Nat) (x18 : Bool) (x19 : Nat) (M : AMem) : List Value := [junk, junk, junk, .int .u16 x3, .pointer (some ⟨x4, 0, none⟩), .pointer (some ⟨x5, 0, none⟩), junk, junk, junk, .pointer (some ⟨x9, 0, none⟩), junk, junk, junk, junk, junk, junk, junk, .pointer (some ⟨x17, 0, none⟩), .bool x18, .pointer (some ⟨x19, 0, none⟩), junk, junk, junk, junk, junk, junk, junk, junk, junk, junk, junk, junk, junk, junk, junk, junk, junk, junk, junk, junk, junk, junk, junk, junk, junk, junk, junk, junk, junk, junk, junk, junk, junk, junk, junk, junk, junk, junk, junk, junk, junk, junk, junk, junk, junk, junk, junk, junk, junk, junk, junk, junk, junk, junk, junk, junk, junk, junk, junk, junk, junk, junk, junk, junk, junk, junk, junk, junk, junk, junk, junk, junk, junk, junk, junk, junk, junk, junk, junk, junk, junk, junk, junk, junk, junk, junk, junk, junk, junk, junk, junk, junk, junk, junk, junk, junk, junk, junk, junk, junk, junk, junk, junk, junk, junk, junk, junk, junk, junk, junk, junk, junk, junk, junk, junk, junk, junk, junk, junk, junk, junk, junk, junk, junk, junk, junk, junk, junk, junk, junk, junk, junk, junk, junk, junk, junk, junk, junk, junk, junk, junk, junk, junk, junk, junk, junk, junk, junk, junk, junk, junk, junk, junk, junk, junk, junk, junk, junk, junk, junk, junk, junk, junk, junk, junk, junk, junk, junk, junk, junk, junk, junk, junk, junk, junk, junk, junk, junk, junk, junk, junk, junk, junk, junk, junk, junk, junk, junk, junk, junk, junk, junk, junk, junk, junk, junk, junk, junk, junk, junk, junk, junk, junk, junk, junk, junk, junk, junk, junk, junk, junk, junk, junk, junk, junk, junk, junk, junk, junk, junk, junk, junk, junk, junk, junk, junk, junk, junk, junk, junk, junk, junk, junk, junk, junk, junk, junk, junk, junk]
theorem XP4_30 : ∃ P : Rec → Int → Nat → Nat → Nat → Nat → Bool → Nat → AMem → Res, P = fun (L : Rec) (x3 : Int) (x4 : Nat) (x5 : Nat) (x9 : Nat) (x17 : Nat) (x18 : Bool) (x19 : Nat) (M : AMem) => code L c4_30 (k4_30 L) (s4_30 x3 x4 x5 x9 x17 x18 x19 M) M := ⟨_, rfl⟩
noncomputable def P4_30 : Rec → Int → Nat → Nat → Nat → Nat → Bool → Nat → AMem → Res := Classical.choose XP4_30
noncomputable def k4_34 (L : Rec) : KT := retK [.tmp 8]
def s4_34 (x4 : Nat) (x5 : Nat) (x9 : Nat) (x17 : Nat) (x18 : Bool) (x19 : Nat) (x22 : Bool) (x23 : Nat) (M : AMem) : List Value := [junk, junk, junk, junk, .pointer (some ⟨x4, 0, none⟩), .pointer (some ⟨x5, 0, none⟩), junk, junk, junk, .pointer (some ⟨x9, 0, none⟩), junk, junk, junk, junk, junk, junk, junk, .pointer (some ⟨x17, 0, none⟩), .bool x18, .pointer (some ⟨x19, 0, none⟩), junk, junk, .bool x22, .pointer (some ⟨x23, 0, none⟩), junk, junk, junk, junk, junk, junk, junk, junk, junk, junk, junk, junk, junk, junk, junk, junk, junk, junk, junk, junk, junk, junk, junk, junk, junk, junk, junk, junk, junk, junk, junk, junk, junk, junk, junk, junk, junk, junk, junk, junk, junk, junk, junk, junk, junk, junk, junk, junk, junk, junk, junk, junk, junk, junk, junk, junk, junk, junk, junk, junk, junk, junk, junk, junk, junk, junk, junk, junk, junk, junk, junk, junk, junk, junk, junk, junk, junk, junk, junk, junk, junk, junk, junk, junk, junk, junk, junk, junk, junk, junk, junk, junk, junk, junk, junk, junk, junk, junk, junk, junk, junk, junk, junk, junk, junk, junk, junk, junk, junk, junk, junk, junk, junk, junk, junk, junk, junk, junk, junk, junk, junk, junk, junk, junk, junk, junk, junk, junk, junk, junk, junk, junk, junk, junk, junk, junk, junk, junk, junk, junk, junk, junk, junk, junk, junk, junk, junk, junk, junk, junk, junk, junk, junk, junk, junk, junk, junk, junk, junk, junk, junk, junk, junk, junk, junk, junk, junk, junk, junk, junk, junk, junk, junk, junk, junk, junk, junk, junk, junk, junk, junk, junk, junk, junk, junk, junk, junk, junk, junk, junk, junk, junk, junk, junk, junk, junk, junk, junk, junk, junk, junk, junk, junk, junk, junk, junk, junk, junk, junk, junk, junk, junk, junk, junk, junk, junk, junk, junk, junk, junk, junk, junk, junk, junk, junk, junk, junk, junk, junk, junk, junk, junk, junk, junk, junk]
theorem XP4_34 : ∃ P : Rec → Nat → Nat → Nat → Nat → Bool → Nat → Bool → Nat → AMem → Res, P = fun (L : Rec) (x4 : Nat) (x5 : Nat) (x9 : Nat) (x17 : Nat) (x18 : Bool) (x19 : Nat) (x22 : Bool) (x23 : Nat) (M : AMem) => code L c4_34 (k4_34 L) (s4_34 x4 x5 x9 x17 x18 x19 x22 x23 M) M := ⟨_, rfl⟩
noncomputable def P4_34 : Rec → Nat → Nat → Nat → Nat → Bool → Nat → Bool → Nat → AMem → Res := Classical.choose XP4_34
noncomputable def k4_38 (L : Rec) : KT := retK [.tmp 8]
def s4_38 (x4 : Nat) (x5 : Nat) (x9 : Nat) (x17 : Nat) (x18 : Bool) (x19 : Nat) (x22 : Bool) (x23 : Nat) (x25 : Nat) (x27 : Nat) (M : AMem) : List Value := [junk, junk, junk, junk, .pointer (some ⟨x4, 0, none⟩), .pointer (some ⟨x5, 0, none⟩), junk, junk, junk, .pointer (some ⟨x9, 0, none⟩), junk, junk, junk, junk, junk, junk, junk, .pointer (some ⟨x17, 0, none⟩), .bool x18, .pointer (some ⟨x19, 0, none⟩), junk, junk, .bool x22, .pointer (some ⟨x23, 0, none⟩), junk, .pointer (some ⟨x25, 0, none⟩), junk, .pointer (some ⟨x27, 0, none⟩), junk, junk, junk, junk, junk, junk, junk, junk, junk, junk, junk, junk, junk, junk, junk, junk, junk, junk, junk, junk, junk, junk, junk, junk, junk, junk, junk, junk, junk, junk, junk, junk, junk, junk, junk, junk, junk, junk, junk, junk, junk, junk, junk, junk, junk, junk, junk, junk, junk, junk, junk, junk, junk, junk, junk, junk, junk, junk, junk, junk, junk, junk, junk, junk, junk, junk, junk, junk, junk, junk, junk, junk, junk, junk, junk, junk, junk, junk, junk, junk, junk, junk, junk, junk, junk, junk, junk, junk, junk, junk, junk, junk, junk, junk, junk, junk, junk, junk, junk, junk, junk, junk, junk, junk, junk, junk, junk, junk, junk, junk, junk, junk, junk, junk, junk, junk, junk, junk, junk, junk, junk, junk, junk, junk, junk, junk, junk, junk, junk, junk, junk, junk, junk, junk, junk, junk, junk, junk, junk, junk, junk, junk, junk, junk, junk, junk, junk, junk, junk, junk, junk, junk, junk, junk, junk, junk, junk, junk, junk, junk, junk, junk, junk, junk, junk, junk, junk, junk, junk, junk, junk, junk, junk, junk, junk, junk, junk, junk, junk, junk, junk, junk, junk, junk, junk, junk, junk, junk, junk, junk, junk, junk, junk, junk, junk, junk, junk, junk, junk, junk, junk, junk, junk, junk, junk, junk, junk, junk, junk, junk, junk, junk, junk, junk, junk, junk, junk, junk, junk, junk, junk, junk, junk, junk, junk, junk, junk, junk, junk, junk, junk]
theorem XP4_38 : ∃ P : Rec → Nat → Nat → Nat → Nat → Bool → Nat → Bool → Nat → Nat → Nat → AMem → Res, P = fun (L : Rec) (x4 : Nat) (x5 : Nat) (x9 : Nat) (x17 : Nat) (x18 : Bool) (x19 : Nat) (x22 : Bool) (x23 : Nat) (x25 : Nat) (x27 : Nat) (M : AMem) => code L c4_38 (k4_38 L) (s4_38 x4 x5 x9 x17 x18 x19 x22 x23 x25 x27 M) M := ⟨_, rfl⟩
noncomputable def P4_38 : Rec → Nat → Nat → Nat → Nat → Bool → Nat → Bool → Nat → Nat → Nat → AMem → Res := Classical.choose XP4_38
theorem QP4_12_eq (L : Rec) (c4_16 : ACode) (P4_12 : Rec → Int → Nat → Nat → Nat → Nat → Bool → AMem → Res) (hP4_12 : P4_12 = fun (L : Rec) (x3 : Int) (x4 : Nat) (x5 : Nat) (x6 : Nat) (x9 : Nat) (x10 : Bool) (M : AMem) => code L (.seq (.draw f4_13 0 o4_13 [(2, 1), (8, 1), (8, 3), (8, 4)]) (.seq (.draw f4_15 0 o4_15 [(2, 1), (8, 1), (8, 3), (8, 4)]) (.clear [0, 1, 2, 7, 8, 15, 16, 17, 18, 19, 20, 21, 22, 23, 24, 25, 26, 27, 28, 29, 30, 31, 32, 33, 34, 35, 36, 37, 38, 39, 40, 41, 42, 43, 44, 45, 46, 47, 48, 49, 50, 51, 52, 53, 54, 55, 56, 57, 58, 59, 60, 61, 62, 63, 64, 65, 66, 67, 68, 69, 70, 71, 72, 73, 74, 75, 76, 77, 78, 79, 80, 81, 82, 83, 84, 85, 86, 87, 88, 89, 90, 91, 92, 93, 94, 95, 96, 97, 98, 99, 100, 101, 102, 103, 104, 105, 106, 107, 108, 109, 110, 111, 112, 113, 114, 115, 116, 117, 118, 119, 120, 121, 122, 123, 124, 125, 126, 127, 128, 129, 130, 131, 132, 133, 134, 135, 136, 137, 138, 139, 140, 141, 142, 143, 144, 145, 146, 147, 148, 149, 150, 151, 152, 153, 154, 155, 156, 157, 158, 159, 160, 161, 162, 163, 164, 165, 166, 167, 168, 169, 170, 171, 172, 173, 174, 175, 176, 177, 178, 179, 180, 181, 182, 183, 184, 185, 186, 187, 188, 189, 190, 191, 192, 193, 194, 195, 196, 197, 198, 199, 200, 201, 202, 203, 204, 205, 206, 207, 208, 209, 210, 211, 212, 213, 214, 215, 216, 217, 218, 219, 220, 221, 222, 223, 224, 225, 226, 227, 228, 229, 230, 231, 232, 233, 234, 235, 236, 237, 238, 239, 240, 241, 242, 243, 244, 245, 246, 247, 248, 249, 250, 251, 252, 253, 254, 255, 256, 257, 258] c4_16))) (retK [.tmp 8]) (s4_12 x3 x4 x5 x6 x9 x10 M) M) (P4_16 : Rec → Int → Nat → Nat → Nat → Nat → Bool → Nat → Bool → Nat → Bool → AMem → Res) (hP4_16 : P4_16 = fun (L : Rec) (x3 : Int) (x4 : Nat) (x5 : Nat) (x6 : Nat) (x9 : Nat) (x10 : Bool) (x11 : Nat) (x12 : Bool) (x13 : Nat) (x14 : Bool) (M : AMem) => code L c4_16 (retK [.tmp 8]) (s4_16 x3 x4 x5 x6 x9 x10 x11 x12 x13 x14 M) M) (x3 : Int) (x4 : Nat) (x5 : Nat) (x6 : Nat) (x9 : Nat) (x10 : Bool) (M : AMem) : P4_12 L x3 x4 x5 x6 x9 x10 M =
  (Option.bind (intOf? .i64 (AMem.ld (M ++ [AObj.cells [.int .i64 0, .int .i64 0, .int .i64 0, .int .i64 0] ⟨false, 0⟩]) x5 0)) fun x_1 =>
    (Option.bind (intOf? .i64 (AMem.ld (M ++ [AObj.cells [.int .i64 0, .int .i64 0, .int .i64 0, .int .i64 0] ⟨false, 0⟩]) x5 1)) fun x_2 =>
    (Option.bind (sliceOf? (AMem.ld (M ++ [AObj.cells [.int .i64 0, .int .i64 0, .int .i64 0, .int .i64 0] ⟨false, 0⟩]) x5 2)) fun s_3 =>
    (Option.bind (L.call 7 [.agg #[.int .i64 x_1, .int .i64 x_2, .slice s_3.1 s_3.2.1 s_3.2.2]] (M ++ [AObj.cells [.int .i64 0, .int .i64 0, .int .i64 0, .int .i64 0] ⟨false, 0⟩])) fun r_4 =>
    (Option.bind (aggOf? 3 r_4.1) fun cs_5 =>
    (Option.bind (intOf? .i64 (cs_5[0]?)) fun x_6 =>
    (Option.bind (intOf? .i64 (cs_5[1]?)) fun x_7 =>
    (Option.bind (sliceOf? (cs_5[2]?)) fun s_8 =>
    (Option.bind (intOf? .i64 (AMem.ld r_4.2 x4 0)) fun x_9 =>
    (Option.bind (intOf? .i64 (AMem.ld r_4.2 x4 1)) fun x_10 =>
    (Option.bind (sliceOf? (AMem.ld r_4.2 x4 2)) fun s_11 =>
    (Option.bind (L.call 7 [.agg #[.int .i64 x_9, .int .i64 x_10, .slice s_11.1 s_11.2.1 s_11.2.2]] r_4.2) fun r_12 =>
    (Option.bind (aggOf? 3 r_12.1) fun cs_13 =>
    (Option.bind (intOf? .i64 (cs_13[0]?)) fun x_14 =>
    (Option.bind (intOf? .i64 (cs_13[1]?)) fun x_15 =>
    (Option.bind (sliceOf? (cs_13[2]?)) fun s_16 =>
    (Option.bind (L.call 6 [.agg #[.int .i64 x_6, .int .i64 x_7, .slice s_8.1 s_8.2.1 s_8.2.2], .agg #[.int .i64 x_14, .int .i64 x_15, .slice s_16.1 s_16.2.1 s_16.2.2]] r_12.2) fun r_17 =>
    (Option.bind (tupOf? 2 r_17.1) fun cs_18 =>
    (Option.bind (cs_18[0]?) fun u_19 =>
    (Option.bind (aggOf? 4 u_19) fun cs_20 =>
    (Option.bind (intOf? .i64 (cs_20[0]?)) fun x_21 =>
    (Option.bind (intOf? .i64 (cs_20[1]?)) fun x_22 =>
    (Option.bind (intOf? .i64 (cs_20[2]?)) fun x_23 =>
    (Option.bind (intOf? .i64 (cs_20[3]?)) fun x_24 =>
    (Option.bind (cs_18[1]?) fun u_25 =>
    (Option.bind (boolOf? (some u_25)) fun q_26 =>
    (Option.bind (AMem.wr r_17.2 (List.length M) 0 [.int .i64 x_21, .int .i64 x_22, .int .i64 x_23, .int .i64 x_24]) fun M_27 =>
    (if chkOk [(2, 1), (8, 1), (8, 3), (8, 4)] [(8, (List.length M)), (2, x4)] [(4, (r_12.2, r_17.2)), (3, (r_4.2, r_12.2)), (1, ((M ++ [AObj.cells [.int .i64 0, .int .i64 0, .int .i64 0, .int .i64 0] ⟨false, 0⟩]), r_4.2))] = true
    then (Option.bind (intOf? .i64 (AMem.ld (M_27 ++ [AObj.cells [.int .i64 0, .int .i64 0, .int .i64 0, .int .i64 0] ⟨false, 0⟩]) x5 0)) fun x_28 =>
      (Option.bind (intOf? .i64 (AMem.ld (M_27 ++ [AObj.cells [.int .i64 0, .int .i64 0, .int .i64 0, .int .i64 0] ⟨false, 0⟩]) x5 1)) fun x_29 =>
      (Option.bind (sliceOf? (AMem.ld (M_27 ++ [AObj.cells [.int .i64 0, .int .i64 0, .int .i64 0, .int .i64 0] ⟨false, 0⟩]) x5 2)) fun s_30 =>
      (Option.bind (L.call 7 [.agg #[.int .i64 x_28, .int .i64 x_29, .slice s_30.1 s_30.2.1 s_30.2.2]] (M_27 ++ [AObj.cells [.int .i64 0, .int .i64 0, .int .i64 0, .int .i64 0] ⟨false, 0⟩])) fun r_31 =>
      (Option.bind (aggOf? 3 r_31.1) fun cs_32 =>
      (Option.bind (intOf? .i64 (cs_32[0]?)) fun x_33 =>
      (Option.bind (intOf? .i64 (cs_32[1]?)) fun x_34 =>
      (Option.bind (sliceOf? (cs_32[2]?)) fun s_35 =>
      (Option.bind (intOf? .i64 (AMem.ld r_31.2 x6 0)) fun x_36 =>
      (Option.bind (intOf? .i64 (AMem.ld r_31.2 x6 1)) fun x_37 =>
      (Option.bind (sliceOf? (AMem.ld r_31.2 x6 2)) fun s_38 =>
      (Option.bind (L.call 7 [.agg #[.int .i64 x_36, .int .i64 x_37, .slice s_38.1 s_38.2.1 s_38.2.2]] r_31.2) fun r_39 =>
      (Option.bind (aggOf? 3 r_39.1) fun cs_40 =>
      (Option.bind (intOf? .i64 (cs_40[0]?)) fun x_41 =>
      (Option.bind (intOf? .i64 (cs_40[1]?)) fun x_42 =>
      (Option.bind (sliceOf? (cs_40[2]?)) fun s_43 =>
      (Option.bind (L.call 6 [.agg #[.int .i64 x_33, .int .i64 x_34, .slice s_35.1 s_35.2.1 s_35.2.2], .agg #[.int .i64 x_41, .int .i64 x_42, .slice s_43.1 s_43.2.1 s_43.2.2]] r_39.2) fun r_44 =>
      (Option.bind (tupOf? 2 r_44.1) fun cs_45 =>
      (Option.bind (cs_45[0]?) fun u_46 =>
      (Option.bind (aggOf? 4 u_46) fun cs_47 =>
      (Option.bind (intOf? .i64 (cs_47[0]?)) fun x_48 =>
      (Option.bind (intOf? .i64 (cs_47[1]?)) fun x_49 =>
      (Option.bind (intOf? .i64 (cs_47[2]?)) fun x_50 =>
      (Option.bind (intOf? .i64 (cs_47[3]?)) fun x_51 =>
      (Option.bind (cs_45[1]?) fun u_52 =>
      (Option.bind (boolOf? (some u_52)) fun q_53 =>
      (Option.bind (AMem.wr r_44.2 (List.length M_27) 0 [.int .i64 x_48, .int .i64 x_49, .int .i64 x_50, .int .i64 x_51]) fun M_54 =>
      (if chkOk [(2, 1), (8, 1), (8, 3), (8, 4)] [(8, (List.length M_27)), (2, x6)] [(4, (r_39.2, r_44.2)), (3, (r_31.2, r_39.2)), (1, ((M_27 ++ [AObj.cells [.int .i64 0, .int .i64 0, .int .i64 0, .int .i64 0] ⟨false, 0⟩]), r_31.2))] = true
      then P4_16 L x3 x4 x5 x6 x9 x10 (List.length M) q_26 (List.length M_27) q_53 M_54
      else none))))))))))))))))))))))))))))
    else none)))))))))))))))))))))))))))) := by
  subst hP4_12; subst hP4_16; kernel_rfl
theorem P4_12_eq (L : Rec) (x3 : Int) (x4 : Nat) (x5 : Nat) (x6 : Nat) (x9 : Nat) (x10 : Bool) (M : AMem) : P4_12 L x3 x4 x5 x6 x9 x10 M =
  (Option.bind (intOf? .i64 (AMem.ld (M ++ [AObj.cells [.int .i64 0, .int .i64 0, .int .i64 0, .int .i64 0] ⟨false, 0⟩]) x5 0)) fun x_1 =>
    (Option.bind (intOf? .i64 (AMem.ld (M ++ [AObj.cells [.int .i64 0, .int .i64 0, .int .i64 0, .int .i64 0] ⟨false, 0⟩]) x5 1)) fun x_2 =>
    (Option.bind (sliceOf? (AMem.ld (M ++ [AObj.cells [.int .i64 0, .int .i64 0, .int .i64 0, .int .i64 0] ⟨false, 0⟩]) x5 2)) fun s_3 =>
    (Option.bind (L.call 7 [.agg #[.int .i64 x_1, .int .i64 x_2, .slice s_3.1 s_3.2.1 s_3.2.2]] (M ++ [AObj.cells [.int .i64 0, .int .i64 0, .int .i64 0, .int .i64 0] ⟨false, 0⟩])) fun r_4 =>
    (Option.bind (aggOf? 3 r_4.1) fun cs_5 =>
    (Option.bind (intOf? .i64 (cs_5[0]?)) fun x_6 =>
    (Option.bind (intOf? .i64 (cs_5[1]?)) fun x_7 =>
    (Option.bind (sliceOf? (cs_5[2]?)) fun s_8 =>
    (Option.bind (intOf? .i64 (AMem.ld r_4.2 x4 0)) fun x_9 =>
    (Option.bind (intOf? .i64 (AMem.ld r_4.2 x4 1)) fun x_10 =>
    (Option.bind (sliceOf? (AMem.ld r_4.2 x4 2)) fun s_11 =>
    (Option.bind (L.call 7 [.agg #[.int .i64 x_9, .int .i64 x_10, .slice s_11.1 s_11.2.1 s_11.2.2]] r_4.2) fun r_12 =>
    (Option.bind (aggOf? 3 r_12.1) fun cs_13 =>
    (Option.bind (intOf? .i64 (cs_13[0]?)) fun x_14 =>
    (Option.bind (intOf? .i64 (cs_13[1]?)) fun x_15 =>
    (Option.bind (sliceOf? (cs_13[2]?)) fun s_16 =>
    (Option.bind (L.call 6 [.agg #[.int .i64 x_6, .int .i64 x_7, .slice s_8.1 s_8.2.1 s_8.2.2], .agg #[.int .i64 x_14, .int .i64 x_15, .slice s_16.1 s_16.2.1 s_16.2.2]] r_12.2) fun r_17 =>
    (Option.bind (tupOf? 2 r_17.1) fun cs_18 =>
    (Option.bind (cs_18[0]?) fun u_19 =>
    (Option.bind (aggOf? 4 u_19) fun cs_20 =>
    (Option.bind (intOf? .i64 (cs_20[0]?)) fun x_21 =>
    (Option.bind (intOf? .i64 (cs_20[1]?)) fun x_22 =>
    (Option.bind (intOf? .i64 (cs_20[2]?)) fun x_23 =>
    (Option.bind (intOf? .i64 (cs_20[3]?)) fun x_24 =>
    (Option.bind (cs_18[1]?) fun u_25 =>
    (Option.bind (boolOf? (some u_25)) fun q_26 =>
    (Option.bind (AMem.wr r_17.2 (List.length M) 0 [.int .i64 x_21, .int .i64 x_22, .int .i64 x_23, .int .i64 x_24]) fun M_27 =>
    (if chkOk [(2, 1), (8, 1), (8, 3), (8, 4)] [(8, (List.length M)), (2, x4)] [(4, (r_12.2, r_17.2)), (3, (r_4.2, r_12.2)), (1, ((M ++ [AObj.cells [.int .i64 0, .int .i64 0, .int .i64 0, .int .i64 0] ⟨false, 0⟩]), r_4.2))] = true
    then (Option.bind (intOf? .i64 (AMem.ld (M_27 ++ [AObj.cells [.int .i64 0, .int .i64 0, .int .i64 0, .int .i64 0] ⟨false, 0⟩]) x5 0)) fun x_28 =>
      (Option.bind (intOf? .i64 (AMem.ld (M_27 ++ [AObj.cells [.int .i64 0, .int .i64 0, .int .i64 0, .int .i64 0] ⟨false, 0⟩]) x5 1)) fun x_29 =>
      (Option.bind (sliceOf? (AMem.ld (M_27 ++ [AObj.cells [.int .i64 0, .int .i64 0, .int .i64 0, .int .i64 0] ⟨false, 0⟩]) x5 2)) fun s_30 =>
      (Option.bind (L.call 7 [.agg #[.int .i64 x_28, .int .i64 x_29, .slice s_30.1 s_30.2.1 s_30.2.2]] (M_27 ++ [AObj.cells [.int .i64 0, .int .i64 0, .int .i64 0, .int .i64 0] ⟨false, 0⟩])) fun r_31 =>
      (Option.bind (aggOf? 3 r_31.1) fun cs_32 =>
      (Option.bind (intOf? .i64 (cs_32[0]?)) fun x_33 =>
      (Option.bind (intOf? .i64 (cs_32[1]?)) fun x_34 =>
      (Option.bind (sliceOf? (cs_32[2]?)) fun s_35 =>
      (Option.bind (intOf? .i64 (AMem.ld r_31.2 x6 0)) fun x_36 =>
      (Option.bind (intOf? .i64 (AMem.ld r_31.2 x6 1)) fun x_37 =>
      (Option.bind (sliceOf? (AMem.ld r_31.2 x6 2)) fun s_38 =>
      (Option.bind (L.call 7 [.agg #[.int .i64 x_36, .int .i64 x_37, .slice s_38.1 s_38.2.1 s_38.2.2]] r_31.2) fun r_39 =>
      (Option.bind (aggOf? 3 r_39.1) fun cs_40 =>
      (Option.bind (intOf? .i64 (cs_40[0]?)) fun x_41 =>
      (Option.bind (intOf? .i64 (cs_40[1]?)) fun x_42 =>
      (Option.bind (sliceOf? (cs_40[2]?)) fun s_43 =>
      (Option.bind (L.call 6 [.agg #[.int .i64 x_33, .int .i64 x_34, .slice s_35.1 s_35.2.1 s_35.2.2], .agg #[.int .i64 x_41, .int .i64 x_42, .slice s_43.1 s_43.2.1 s_43.2.2]] r_39.2) fun r_44 =>
      (Option.bind (tupOf? 2 r_44.1) fun cs_45 =>
      (Option.bind (cs_45[0]?) fun u_46 =>
      (Option.bind (aggOf? 4 u_46) fun cs_47 =>
      (Option.bind (intOf? .i64 (cs_47[0]?)) fun x_48 =>
      (Option.bind (intOf? .i64 (cs_47[1]?)) fun x_49 =>
      (Option.bind (intOf? .i64 (cs_47[2]?)) fun x_50 =>
      (Option.bind (intOf? .i64 (cs_47[3]?)) fun x_51 =>
      (Option.bind (cs_45[1]?) fun u_52 =>
      (Option.bind (boolOf? (some u_52)) fun q_53 =>
      (Option.bind (AMem.wr r_44.2 (List.length M_27) 0 [.int .i64 x_48, .int .i64 x_49, .int .i64 x_50, .int .i64 x_51]) fun M_54 =>
      (if chkOk [(2, 1), (8, 1), (8, 3), (8, 4)] [(8, (List.length M_27)), (2, x6)] [(4, (r_39.2, r_44.2)), (3, (r_31.2, r_39.2)), (1, ((M_27 ++ [AObj.cells [.int .i64 0, .int .i64 0, .int .i64 0, .int .i64 0] ⟨false, 0⟩]), r_31.2))] = true
      then P4_16 L x3 x4 x5 x6 x9 x10 (List.length M) q_26 (List.length M_27) q_53 M_54
      else none))))))))))))))))))))))))))))
    else none)))))))))))))))))))))))))))) := QP4_12_eq L c4_16 P4_12 (Classical.choose_spec XP4_12) P4_16 (Classical.choose_spec XP4_16) x3 x4 x5 x6 x9 x10 M
theorem QP4_16_eq (L : Rec) (c4_21 c4_30 : ACode) (P4_16 : Rec → Int → Nat → Nat → Nat → Nat → Bool → Nat → Bool → Nat → Bool → AMem → Res) (hP4_16 : P4_16 = fun (L : Rec) (x3 : Int) (x4 : Nat) (x5 : Nat) (x6 : Nat) (x9 : Nat) (x10 : Bool) (x11 : Nat) (x12 : Bool) (x13 : Nat) (x14 : Bool) (M : AMem) => code L (.seq (.draw f4_17 0 o4_17 [(2, 1), (8, 1), (8, 3), (8, 4)]) (.seq (.seq (.draw [] 0 o4_20 [(20, 25)]) (.clear [0, 1, 2, 6, 7, 8, 10, 11, 12, 13, 14, 15, 16, 17, 18, 19, 20, 21, 22, 23, 24, 25, 26, 27, 28, 29, 30, 31, 32, 33, 34, 35, 36, 37, 38, 39, 40, 41, 42, 43, 44, 45, 46, 47, 48, 49, 50, 51, 52, 53, 54, 55, 56, 57, 58, 59, 60, 61, 62, 63, 64, 65, 66, 67, 68, 69, 70, 71, 72, 73, 74, 75, 76, 77, 78, 79, 80, 81, 82, 83, 84, 85, 86, 87, 88, 89, 90, 91, 92, 93, 94, 95, 96, 97, 98, 99, 100, 101, 102, 103, 104, 105, 106, 107, 108, 109, 110, 111, 112, 113, 114, 115, 116, 117, 118, 119, 120, 121, 122, 123, 124, 125, 126, 127, 128, 129, 130, 131, 132, 133, 134, 136, 137, 138, 139, 140, 141, 142, 143, 144, 145, 146, 147, 148, 149, 150, 151, 152, 153, 154, 155, 156, 157, 158, 159, 160, 161, 162, 163, 164, 165, 166, 167, 168, 169, 170, 171, 172, 173, 174, 175, 176, 177, 178, 179, 180, 181, 182, 183, 184, 185, 186, 187, 188, 189, 190, 191, 192, 193, 194, 195, 196, 197, 198, 199, 200, 201, 202, 203, 204, 205, 206, 207, 208, 209, 210, 211, 212, 213, 214, 215, 216, 217, 218, 219, 220, 221, 222, 223, 224, 225, 226, 227, 228, 229, 230, 231, 232, 233, 234, 235, 236, 237, 238, 239, 240, 241, 242, 243, 244, 245, 246, 247, 248, 249, 250, 251, 252, 253, 254, 255, 256, 257, 258] c4_21)) (.seq (.draw f4_27 0 o4_27 [(2, 1), (4, 1), (4, 3), (7, 1), (7, 3), (7, 5), (7, 6), (13, 1), (13, 3), (13, 5), (13, 6), (13, 8), (13, 9)]) (.seq (.draw f4_29 0 o4_29 [(2, 1), (8, 1), (8, 3), (8, 4)]) (.clear [0, 1, 2, 6, 7, 8, 10, 11, 12, 13, 14, 15, 16, 20, 21, 22, 23, 24, 25, 26, 27, 28, 29, 30, 31, 32, 33, 34, 35, 36, 37, 38, 39, 40, 41, 42, 43, 44, 45, 46, 47, 48, 49, 50, 51, 52, 53, 54, 55, 56, 57, 58, 59, 60, 61, 62, 63, 64, 65, 66, 67, 68, 69, 70, 71, 72, 73, 74, 75, 76, 77, 78, 79, 80, 81, 82, 83, 84, 85, 86, 87, 88, 89, 90, 91, 92, 93, 94, 95, 96, 97, 98, 99, 100, 101, 102, 103, 104, 105, 106, 107, 108, 109, 110, 111, 112, 113, 114, 115, 116, 117, 118, 119, 120, 121, 122, 123, 124, 125, 126, 127, 128, 129, 130, 131, 132, 133, 134, 135, 136, 137, 138, 139, 140, 141, 142, 143, 144, 145, 146, 147, 148, 149, 150, 151, 152, 153, 154, 155, 156, 157, 158, 159, 160, 161, 162, 163, 164, 165, 166, 167, 168, 169, 170, 171, 172, 173, 174, 175, 176, 177, 178, 179, 180, 181, 182, 183, 184, 185, 186, 187, 188, 189, 190, 191, 192, 193, 194, 195, 196, 197, 198, 199, 200, 201, 202, 203, 204, 205, 206, 207, 208, 209, 210, 211, 212, 213, 214, 215, 216, 217, 218, 219, 220, 221, 222, 223, 224, 225, 226, 227, 228, 229, 230, 231, 232, 233, 234, 235, 236, 237, 238, 239, 240, 241, 242, 243, 244, 245, 246, 247, 248, 249, 250, 251, 252, 253, 254, 255, 256, 257, 258] c4_30))))) (retK [.tmp 8]) (s4_16 x3 x4 x5 x6 x9 x10 x11 x12 x13 x14 M) M) (P4_21 : Rec → Int → Nat → Nat → Nat → Bool → AMem → Res) (hP4_21 : P4_21 = fun (L : Rec) (x3 : Int) (x4 : Nat) (x5 : Nat) (x9 : Nat) (x135 : Bool) (M : AMem) => code L c4_21 (seqK (code L (.seq (.draw f4_27 0 o4_27 [(2, 1), (4, 1), (4, 3), (7, 1), (7, 3), (7, 5), (7, 6), (13, 1), (13, 3), (13, 5), (13, 6), (13, 8), (13, 9)]) (.seq (.draw f4_29 0 o4_29 [(2, 1), (8, 1), (8, 3), (8, 4)]) (.clear [0, 1, 2, 6, 7, 8, 10, 11, 12, 13, 14, 15, 16, 20, 21, 22, 23, 24, 25, 26, 27, 28, 29, 30, 31, 32, 33, 34, 35, 36, 37, 38, 39, 40, 41, 42, 43, 44, 45, 46, 47, 48, 49, 50, 51, 52, 53, 54, 55, 56, 57, 58, 59, 60, 61, 62, 63, 64, 65, 66, 67, 68, 69, 70, 71, 72, 73, 74, 75, 76, 77, 78, 79, 80, 81, 82, 83, 84, 85, 86, 87, 88, 89, 90, 91, 92, 93, 94, 95, 96, 97, 98, 99, 100, 101, 102, 103, 104, 105, 106, 107, 108, 109, 110, 111, 112, 113, 114, 115, 116, 117, 118, 119, 120, 121, 122, 123, 124, 125, 126, 127, 128, 129, 130, 131, 132, 133, 134, 135, 136, 137, 138, 139, 140, 141, 142, 143, 144, 145, 146, 147, 148, 149, 150, 151, 152, 153, 154, 155, 156, 157, 158, 159, 160, 161, 162, 163, 164, 165, 166, 167, 168, 169, 170, 171, 172, 173, 174, 175, 176, 177, 178, 179, 180, 181, 182, 183, 184, 185, 186, 187, 188, 189, 190, 191, 192, 193, 194, 195, 196, 197, 198, 199, 200, 201, 202, 203, 204, 205, 206, 207, 208, 209, 210, 211, 212, 213, 214, 215, 216, 217, 218, 219, 220, 221, 222, 223, 224, 225, 226, 227, 228, 229, 230, 231, 232, 233, 234, 235, 236, 237, 238, 239, 240, 241, 242, 243, 244, 245, 246, 247, 248, 249, 250, 251, 252, 253, 254, 255, 256, 257, 258] c4_30))) (retK [.tmp 8])) (retK [.tmp 8])) (s4_21 x3 x4 x5 x9 x135 M) M) (x3 : Int) (x4 : Nat) (x5 : Nat) (x6 : Nat) (x9 : Nat) (x10 : Bool) (x11 : Nat) (x12 : Bool) (x13 : Nat) (x14 : Bool) (M : AMem) : P4_16 L x3 x4 x5 x6 x9 x10 x11 x12 x13 x14 M =
  (Option.bind (intOf? .i64 (AMem.ld (M ++ [AObj.cells [.int .i64 0, .int .i64 0, .int .i64 0, .int .i64 0] ⟨false, 0⟩]) x4 0)) fun x_1 =>
    (Option.bind (intOf? .i64 (AMem.ld (M ++ [AObj.cells [.int .i64 0, .int .i64 0, .int .i64 0, .int .i64 0] ⟨false, 0⟩]) x4 1)) fun x_2 =>
    (Option.bind (sliceOf? (AMem.ld (M ++ [AObj.cells [.int .i64 0, .int .i64 0, .int .i64 0, .int .i64 0] ⟨false, 0⟩]) x4 2)) fun s_3 =>
    (Option.bind (L.call 7 [.agg #[.int .i64 x_1, .int .i64 x_2, .slice s_3.1 s_3.2.1 s_3.2.2]] (M ++ [AObj.cells [.int .i64 0, .int .i64 0, .int .i64 0, .int .i64 0] ⟨false, 0⟩])) fun r_4 =>
    (Option.bind (aggOf? 3 r_4.1) fun cs_5 =>
    (Option.bind (intOf? .i64 (cs_5[0]?)) fun x_6 =>
    (Option.bind (intOf? .i64 (cs_5[1]?)) fun x_7 =>
    (Option.bind (sliceOf? (cs_5[2]?)) fun s_8 =>
    (Option.bind (intOf? .i64 (AMem.ld r_4.2 x6 0)) fun x_9 =>
    (Option.bind (intOf? .i64 (AMem.ld r_4.2 x6 1)) fun x_10 =>
    (Option.bind (sliceOf? (AMem.ld r_4.2 x6 2)) fun s_11 =>
    (Option.bind (L.call 7 [.agg #[.int .i64 x_9, .int .i64 x_10, .slice s_11.1 s_11.2.1 s_11.2.2]] r_4.2) fun r_12 =>
    (Option.bind (aggOf? 3 r_12.1) fun cs_13 =>
    (Option.bind (intOf? .i64 (cs_13[0]?)) fun x_14 =>
    (Option.bind (intOf? .i64 (cs_13[1]?)) fun x_15 =>
    (Option.bind (sliceOf? (cs_13[2]?)) fun s_16 =>
    (Option.bind (L.call 6 [.agg #[.int .i64 x_6, .int .i64 x_7, .slice s_8.1 s_8.2.1 s_8.2.2], .agg #[.int .i64 x_14, .int .i64 x_15, .slice s_16.1 s_16.2.1 s_16.2.2]] r_12.2) fun r_17 =>
    (Option.bind (tupOf? 2 r_17.1) fun cs_18 =>
    (Option.bind (cs_18[0]?) fun u_19 =>
    (Option.bind (aggOf? 4 u_19) fun cs_20 =>
    (Option.bind (intOf? .i64 (cs_20[0]?)) fun x_21 =>
    (Option.bind (intOf? .i64 (cs_20[1]?)) fun x_22 =>
    (Option.bind (intOf? .i64 (cs_20[2]?)) fun x_23 =>
    (Option.bind (intOf? .i64 (cs_20[3]?)) fun x_24 =>
    (Option.bind (cs_18[1]?) fun u_25 =>
    (Option.bind (boolOf? (some u_25)) fun q_26 =>
    (Option.bind (AMem.wr r_17.2 (List.length M) 0 [.int .i64 x_21, .int .i64 x_22, .int .i64 x_23, .int .i64 x_24]) fun M_27 =>
    (if chkOk [(2, 1), (8, 1), (8, 3), (8, 4)] [(8, (List.length M)), (2, x6)] [(4, (r_12.2, r_17.2)), (3, (r_4.2, r_12.2)), (1, ((M ++ [AObj.cells [.int .i64 0, .int .i64 0, .int .i64 0, .int .i64 0] ⟨false, 0⟩]), r_4.2))] = true
    then (if (!x10) = true
      then (if chkOk [(20, 25)] [(20, x9)] [(25, (M_27, M_27))] = true
        then P4_21 L x3 x4 x5 x9 true M_27
        else none)
      else (if (!x12) = true
        then (if chkOk [(20, 25)] [(20, x9)] [(25, (M_27, M_27))] = true
          then P4_21 L x3 x4 x5 x9 true M_27
          else none)
        else (if (!x14) = true
          then (if chkOk [(20, 25)] [(20, x9)] [(25, (M_27, M_27))] = true
            then P4_21 L x3 x4 x5 x9 true M_27
            else none)
          else (if (!q_26) = true
            then (if chkOk [(20, 25)] [(20, x9)] [(25, (M_27, M_27))] = true
              then P4_21 L x3 x4 x5 x9 true M_27
              else none)
            else (Option.bind (intOf? .i64 (AMem.ld M_27 x9 0)) fun x_28 =>
              (Option.bind (intOf? .i64 (AMem.ld M_27 x9 1)) fun x_29 =>
              (Option.bind (intOf? .i64 (AMem.ld M_27 x9 2)) fun x_30 =>
              (Option.bind (intOf? .i64 (AMem.ld M_27 x9 3)) fun x_31 =>
              (Option.bind (intOf? .i64 (AMem.ld M_27 x11 0)) fun x_32 =>
              (Option.bind (intOf? .i64 (AMem.ld M_27 x11 1)) fun x_33 =>
              (Option.bind (intOf? .i64 (AMem.ld M_27 x11 2)) fun x_34 =>
              (Option.bind (intOf? .i64 (AMem.ld M_27 x11 3)) fun x_35 =>
              (if (!((x_28 == x_32) && ((x_29 == x_33) && ((x_30 == x_34) && (x_31 == x_35))))) = true
              then (if chkOk [(20, 25)] [(20, x9)] [(25, (M_27, M_27))] = true
                then P4_21 L x3 x4 x5 x9 true M_27
                else none)
              else (Option.bind (intOf? .i64 (AMem.ld M_27 x9 0)) fun x_36 =>
                (Option.bind (intOf? .i64 (AMem.ld M_27 x9 1)) fun x_37 =>
                (Option.bind (intOf? .i64 (AMem.ld M_27 x9 2)) fun x_38 =>
                (Option.bind (intOf? .i64 (AMem.ld M_27 x9 3)) fun x_39 =>
                (Option.bind (intOf? .i64 (AMem.ld M_27 x4 0)) fun x_40 =>
                (Option.bind (intOf? .i64 (AMem.ld M_27 x4 1)) fun x_41 =>
                (Option.bind (sliceOf? (AMem.ld M_27 x4 2)) fun s_42 =>
                (Option.bind (intOf? .i64 (AMem.ld M_27 x5 0)) fun x_43 =>
                (Option.bind (intOf? .i64 (AMem.ld M_27 x5 1)) fun x_44 =>
                (Option.bind (sliceOf? (AMem.ld M_27 x5 2)) fun s_45 =>
                (Option.bind (L.call 15 [.agg #[.int .i64 x_40, .int .i64 x_41, .slice s_42.1 s_42.2.1 s_42.2.2], .agg #[.int .i64 x_43, .int .i64 x_44, .slice s_45.1 s_45.2.1 s_45.2.2]] M_27) fun r_46 =>
                (Option.bind (boolOf? (some r_46.1)) fun q_47 =>
                (if (!(((x_36 == 0) && ((x_37 == 0) && ((x_38 == 0) && (x_39 == 0)))) == q_47)) = true
                then (if chkOk [(20, 25)] [(20, x9)] [(25, (M_27, r_46.2))] = true
                  then P4_21 L x3 x4 x5 x9 true r_46.2
                  else none)
                else (Option.bind (intOf? .i64 (AMem.ld r_46.2 (List.length M) 2)) fun x_48 =>
                  (Option.bind (intOf? .i64 (AMem.ld r_46.2 x9 2)) fun x_49 =>
                  (Option.bind (intOf? .i64 (AMem.ld r_46.2 x13 2)) fun x_50 =>
                  (if (decide (x_48 > (IntKind.wrap .i64 (x_49 + x_50)))) = true
                  then (if chkOk [(20, 25)] [(20, x9)] [(25, (M_27, r_46.2))] = true
                    then P4_21 L x3 x4 x5 x9 true r_46.2
                    else none)
                  else (Option.bind (intOf? .i64 (AMem.ld r_46.2 (List.length M) 1)) fun x_51 =>
                    (Option.bind (intOf? .i64 (AMem.ld r_46.2 x9 1)) fun x_52 =>
                    (Option.bind (intOf? .i64 (AMem.ld r_46.2 x13 1)) fun x_53 =>
                    (if (decide (x_51 > (IntKind.wrap .i64 (x_52 + x_53)))) = true
                    then (if chkOk [(20, 25)] [(20, x9)] [(25, (M_27, r_46.2))] = true
                      then P4_21 L x3 x4 x5 x9 true r_46.2
                      else none)
                    else (Option.bind (intOf? .i64 (AMem.ld r_46.2 (List.length M) 0)) fun x_54 =>
                      (Option.bind (intOf? .i64 (AMem.ld r_46.2 x9 0)) fun x_55 =>
                      (Option.bind (intOf? .i64 (AMem.ld r_46.2 x13 0)) fun x_56 =>
                      (if chkOk [(20, 25)] [(20, x9)] [(25, (M_27, r_46.2))] = true
                      then P4_21 L x3 x4 x5 x9 (decide (x_54 > (IntKind.wrap .i64 (x_55 + x_56)))) r_46.2
                      else none))))))))))))))))))))))))))))))))))))))
    else none)))))))))))))))))))))))))))) := by
  subst hP4_16; subst hP4_21; kernel_rfl
theorem P4_16_eq (L : Rec) (x3 : Int) (x4 : Nat) (x5 : Nat) (x6 : Nat) (x9 : Nat) (x10 : Bool) (x11 : Nat) (x12 : Bool) (x13 : Nat) (x14 : Bool) (M : AMem) : P4_16 L x3 x4 x5 x6 x9 x10 x11 x12 x13 x14 M =
  (Option.bind (intOf? .i64 (AMem.ld (M ++ [AObj.cells [.int .i64 0, .int .i64 0, .int .i64 0, .int .i64 0] ⟨false, 0⟩]) x4 0)) fun x_1 =>
    (Option.bind (intOf? .i64 (AMem.ld (M ++ [AObj.cells [.int .i64 0, .int .i64 0, .int .i64 0, .int .i64 0] ⟨false, 0⟩]) x4 1)) fun x_2 =>
    (Option.bind (sliceOf? (AMem.ld (M ++ [AObj.cells [.int .i64 0, .int .i64 0, .int .i64 0, .int .i64 0] ⟨false, 0⟩]) x4 2)) fun s_3 =>
    (Option.bind (L.call 7 [.agg #[.int .i64 x_1, .int .i64 x_2, .slice s_3.1 s_3.2.1 s_3.2.2]] (M ++ [AObj.cells [.int .i64 0, .int .i64 0, .int .i64 0, .int .i64 0] ⟨false, 0⟩])) fun r_4 =>
    (Option.bind (aggOf? 3 r_4.1) fun cs_5 =>
    (Option.bind (intOf? .i64 (cs_5[0]?)) fun x_6 =>
    (Option.bind (intOf? .i64 (cs_5[1]?)) fun x_7 =>
    (Option.bind (sliceOf? (cs_5[2]?)) fun s_8 =>
    (Option.bind (intOf? .i64 (AMem.ld r_4.2 x6 0)) fun x_9 =>
    (Option.bind (intOf? .i64 (AMem.ld r_4.2 x6 1)) fun x_10 =>
    (Option.bind (sliceOf? (AMem.ld r_4.2 x6 2)) fun s_11 =>
    (Option.bind (L.call 7 [.agg #[.int .i64 x_9, .int .i64 x_10, .slice s_11.1 s_11.2.1 s_11.2.2]] r_4.2) fun r_12 =>
    (Option.bind (aggOf? 3 r_12.1) fun cs_13 =>
    (Option.bind (intOf? .i64 (cs_13[0]?)) fun x_14 =>
    (Option.bind (intOf? .i64 (cs_13[1]?)) fun x_15 =>
    (Option.bind (sliceOf? (cs_13[2]?)) fun s_16 =>
    (Option.bind (L.call 6 [.agg #[.int .i64 x_6, .int .i64 x_7, .slice s_8.1 s_8.2.1 s_8.2.2], .agg #[.int .i64 x_14, .int .i64 x_15, .slice s_16.1 s_16.2.1 s_16.2.2]] r_12.2) fun r_17 =>
    (Option.bind (tupOf? 2 r_17.1) fun cs_18 =>
    (Option.bind (cs_18[0]?) fun u_19 =>
    (Option.bind (aggOf? 4 u_19) fun cs_20 =>
    (Option.bind (intOf? .i64 (cs_20[0]?)) fun x_21 =>
    (Option.bind (intOf? .i64 (cs_20[1]?)) fun x_22 =>
    (Option.bind (intOf? .i64 (cs_20[2]?)) fun x_23 =>
    (Option.bind (intOf? .i64 (cs_20[3]?)) fun x_24 =>
    (Option.bind (cs_18[1]?) fun u_25 =>
    (Option.bind (boolOf? (some u_25)) fun q_26 =>
    (Option.bind (AMem.wr r_17.2 (List.length M) 0 [.int .i64 x_21, .int .i64 x_22, .int .i64 x_23, .int .i64 x_24]) fun M_27 =>
    (if chkOk [(2, 1), (8, 1), (8, 3), (8, 4)] [(8, (List.length M)), (2, x6)] [(4, (r_12.2, r_17.2)), (3, (r_4.2, r_12.2)), (1, ((M ++ [AObj.cells [.int .i64 0, .int .i64 0, .int .i64 0, .int .i64 0] ⟨false, 0⟩]), r_4.2))] = true
    then (if (!x10) = true
      then (if chkOk [(20, 25)] [(20, x9)] [(25, (M_27, M_27))] = true
        then P4_21 L x3 x4 x5 x9 true M_27
        else none)
      else (if (!x12) = true
        then (if chkOk [(20, 25)] [(20, x9)] [(25, (M_27, M_27))] = true
          then P4_21 L x3 x4 x5 x9 true M_27
          else none)
        else (if (!x14) = true
          then (if chkOk [(20, 25)] [(20, x9)] [(25, (M_27, M_27))] = true
            then P4_21 L x3 x4 x5 x9 true M_27
            else none)
          else (if (!q_26) = true
            then (if chkOk [(20, 25)] [(20, x9)] [(25, (M_27, M_27))] = true
              then P4_21 L x3 x4 x5 x9 true M_27
              else none)
            else (Option.bind (intOf? .i64 (AMem.ld M_27 x9 0)) fun x_28 =>
              (Option.bind (intOf? .i64 (AMem.ld M_27 x9 1)) fun x_29 =>
              (Option.bind (intOf? .i64 (AMem.ld M_27 x9 2)) fun x_30 =>
              (Option.bind (intOf? .i64 (AMem.ld M_27 x9 3)) fun x_31 =>
              (Option.bind (intOf? .i64 (AMem.ld M_27 x11 0)) fun x_32 =>
              (Option.bind (intOf? .i64 (AMem.ld M_27 x11 1)) fun x_33 =>
              (Option.bind (intOf? .i64 (AMem.ld M_27 x11 2)) fun x_34 =>
              (Option.bind (intOf? .i64 (AMem.ld M_27 x11 3)) fun x_35 =>
              (if (!((x_28 == x_32) && ((x_29 == x_33) && ((x_30 == x_34) && (x_31 == x_35))))) = true
              then (if chkOk [(20, 25)] [(20, x9)] [(25, (M_27, M_27))] = true
                then P4_21 L x3 x4 x5 x9 true M_27
                else none)
              else (Option.bind (intOf? .i64 (AMem.ld M_27 x9 0)) fun x_36 =>
                (Option.bind (intOf? .i64 (AMem.ld M_27 x9 1)) fun x_37 =>
                (Option.bind (intOf? .i64 (AMem.ld M_27 x9 2)) fun x_38 =>
                (Option.bind (intOf? .i64 (AMem.ld M_27 x9 3)) fun x_39 =>
                (Option.bind (intOf? .i64 (AMem.ld M_27 x4 0)) fun x_40 =>
                (Option.bind (intOf? .i64 (AMem.ld M_27 x4 1)) fun x_41 =>
                (Option.bind (sliceOf? (AMem.ld M_27 x4 2)) fun s_42 =>
                (Option.bind (intOf? .i64 (AMem.ld M_27 x5 0)) fun x_43 =>
                (Option.bind (intOf? .i64 (AMem.ld M_27 x5 1)) fun x_44 =>
                (Option.bind (sliceOf? (AMem.ld M_27 x5 2)) fun s_45 =>
                (Option.bind (L.call 15 [.agg #[.int .i64 x_40, .int .i64 x_41, .slice s_42.1 s_42.2.1 s_42.2.2], .agg #[.int .i64 x_43, .int .i64 x_44, .slice s_45.1 s_45.2.1 s_45.2.2]] M_27) fun r_46 =>
                (Option.bind (boolOf? (some r_46.1)) fun q_47 =>
                (if (!(((x_36 == 0) && ((x_37 == 0) && ((x_38 == 0) && (x_39 == 0)))) == q_47)) = true
                then (if chkOk [(20, 25)] [(20, x9)] [(25, (M_27, r_46.2))] = true
                  then P4_21 L x3 x4 x5 x9 true r_46.2
                  else none)
                else (Option.bind (intOf? .i64 (AMem.ld r_46.2 (List.length M) 2)) fun x_48 =>
                  (Option.bind (intOf? .i64 (AMem.ld r_46.2 x9 2)) fun x_49 =>
                  (Option.bind (intOf? .i64 (AMem.ld r_46.2 x13 2)) fun x_50 =>
                  (if (decide (x_48 > (IntKind.wrap .i64 (x_49 + x_50)))) = true
                  then (if chkOk [(20, 25)] [(20, x9)] [(25, (M_27, r_46.2))] = true
                    then P4_21 L x3 x4 x5 x9 true r_46.2
                    else none)
                  else (Option.bind (intOf? .i64 (AMem.ld r_46.2 (List.length M) 1)) fun x_51 =>
                    (Option.bind (intOf? .i64 (AMem.ld r_46.2 x9 1)) fun x_52 =>
                    (Option.bind (intOf? .i64 (AMem.ld r_46.2 x13 1)) fun x_53 =>
                    (if (decide (x_51 > (IntKind.wrap .i64 (x_52 + x_53)))) = true
                    then (if chkOk [(20, 25)] [(20, x9)] [(25, (M_27, r_46.2))] = true
                      then P4_21 L x3 x4 x5 x9 true r_46.2
                      else none)
                    else (Option.bind (intOf? .i64 (AMem.ld r_46.2 (List.length M) 0)) fun x_54 =>
                      (Option.bind (intOf? .i64 (AMem.ld r_46.2 x9 0)) fun x_55 =>
                      (Option.bind (intOf? .i64 (AMem.ld r_46.2 x13 0)) fun x_56 =>
                      (if chkOk [(20, 25)] [(20, x9)] [(25, (M_27, r_46.2))] = true
                      then P4_21 L x3 x4 x5 x9 (decide (x_54 > (IntKind.wrap .i64 (x_55 + x_56)))) r_46.2
                      else none))))))))))))))))))))))))))))))))))))))
    else none)))))))))))))))))))))))))))) := QP4_16_eq L c4_21 c4_30 P4_16 (Classical.choose_spec XP4_16) P4_21 (Classical.choose_spec XP4_21) x3 x4 x5 x6 x9 x10 x11 x12 x13 x14 M
theorem QP4_21_eq (L : Rec) (c4_30 : ACode) (P4_21 : Rec → Int → Nat → Nat → Nat → Bool → AMem → Res) (hP4_21 : P4_21 = fun (L : Rec) (x3 : Int) (x4 : Nat) (x5 : Nat) (x9 : Nat) (x135 : Bool) (M : AMem) => code L (.cond (.tmp 135) (.seq (.ops o4_23) (.ret)) (.skip)) (seqK (code L (.seq (.draw f4_27 0 o4_27 [(2, 1), (4, 1), (4, 3), (7, 1), (7, 3), (7, 5), (7, 6), (13, 1), (13, 3), (13, 5), (13, 6), (13, 8), (13, 9)]) (.seq (.draw f4_29 0 o4_29 [(2, 1), (8, 1), (8, 3), (8, 4)]) (.clear [0, 1, 2, 6, 7, 8, 10, 11, 12, 13, 14, 15, 16, 20, 21, 22, 23, 24, 25, 26, 27, 28, 29, 30, 31, 32, 33, 34, 35, 36, 37, 38, 39, 40, 41, 42, 43, 44, 45, 46, 47, 48, 49, 50, 51, 52, 53, 54, 55, 56, 57, 58, 59, 60, 61, 62, 63, 64, 65, 66, 67, 68, 69, 70, 71, 72, 73, 74, 75, 76, 77, 78, 79, 80, 81, 82, 83, 84, 85, 86, 87, 88, 89, 90, 91, 92, 93, 94, 95, 96, 97, 98, 99, 100, 101, 102, 103, 104, 105, 106, 107, 108, 109, 110, 111, 112, 113, 114, 115, 116, 117, 118, 119, 120, 121, 122, 123, 124, 125, 126, 127, 128, 129, 130, 131, 132, 133, 134, 135, 136, 137, 138, 139, 140, 141, 142, 143, 144, 145, 146, 147, 148, 149, 150, 151, 152, 153, 154, 155, 156, 157, 158, 159, 160, 161, 162, 163, 164, 165, 166, 167, 168, 169, 170, 171, 172, 173, 174, 175, 176, 177, 178, 179, 180, 181, 182, 183, 184, 185, 186, 187, 188, 189, 190, 191, 192, 193, 194, 195, 196, 197, 198, 199, 200, 201, 202, 203, 204, 205, 206, 207, 208, 209, 210, 211, 212, 213, 214, 215, 216, 217, 218, 219, 220, 221, 222, 223, 224, 225, 226, 227, 228, 229, 230, 231, 232, 233, 234, 235, 236, 237, 238, 239, 240, 241, 242, 243, 244, 245, 246, 247, 248, 249, 250, 251, 252, 253, 254, 255, 256, 257, 258] c4_30))) (retK [.tmp 8])) (retK [.tmp 8])) (s4_21 x3 x4 x5 x9 x135 M) M) (P4_30 : Rec → Int → Nat → Nat → Nat → Nat → Bool → Nat → AMem → Res) (hP4_30 : P4_30 = fun (L : Rec) (x3 : Int) (x4 : Nat) (x5 : Nat) (x9 : Nat) (x17 : Nat) (x18 : Bool) (x19 : Nat) (M : AMem) => code L c4_30 (retK [.tmp 8]) (s4_30 x3 x4 x5 x9 x17 x18 x19 M) M) (x3 : Int) (x4 : Nat) (x5 : Nat) (x9 : Nat) (x135 : Bool) (M : AMem) : P4_21 L x3 x4 x5 x9 x135 M =
  (if x135 = true
    then some (.bool false, M)
    else (Option.bind (intOf? .i64 (AMem.ld (M ++ [AObj.cells [.int .i64 0, .int .i64 0, .slice none 0 0] ⟨false, 0⟩]) x4 0)) fun x_1 =>
      (Option.bind (intOf? .i64 (AMem.ld (M ++ [AObj.cells [.int .i64 0, .int .i64 0, .slice none 0 0] ⟨false, 0⟩]) x4 1)) fun x_2 =>
      (Option.bind (sliceOf? (AMem.ld (M ++ [AObj.cells [.int .i64 0, .int .i64 0, .slice none 0 0] ⟨false, 0⟩]) x4 2)) fun s_3 =>
      (Option.bind (L.call 7 [.agg #[.int .i64 x_1, .int .i64 x_2, .slice s_3.1 s_3.2.1 s_3.2.2]] (M ++ [AObj.cells [.int .i64 0, .int .i64 0, .slice none 0 0] ⟨false, 0⟩])) fun r_4 =>
      (Option.bind (aggOf? 3 r_4.1) fun cs_5 =>
      (Option.bind (intOf? .i64 (cs_5[0]?)) fun x_6 =>
      (Option.bind (intOf? .i64 (cs_5[1]?)) fun x_7 =>
      (Option.bind (sliceOf? (cs_5[2]?)) fun s_8 =>
      (Option.bind (intOf? .i64 (AMem.ld r_4.2 x4 0)) fun x_9 =>
      (Option.bind (intOf? .i64 (AMem.ld r_4.2 x4 1)) fun x_10 =>
      (Option.bind (sliceOf? (AMem.ld r_4.2 x4 2)) fun s_11 =>
      (Option.bind (L.call 7 [.agg #[.int .i64 x_9, .int .i64 x_10, .slice s_11.1 s_11.2.1 s_11.2.2]] r_4.2) fun r_12 =>
      (Option.bind (aggOf? 3 r_12.1) fun cs_13 =>
      (Option.bind (intOf? .i64 (cs_13[0]?)) fun x_14 =>
      (Option.bind (intOf? .i64 (cs_13[1]?)) fun x_15 =>
      (Option.bind (sliceOf? (cs_13[2]?)) fun s_16 =>
      (Option.bind (intOf? .i64 (AMem.ld r_12.2 x5 0)) fun x_17 =>
      (Option.bind (intOf? .i64 (AMem.ld r_12.2 x5 1)) fun x_18 =>
      (Option.bind (sliceOf? (AMem.ld r_12.2 x5 2)) fun s_19 =>
      (Option.bind (L.call 7 [.agg #[.int .i64 x_17, .int .i64 x_18, .slice s_19.1 s_19.2.1 s_19.2.2]] r_12.2) fun r_20 =>
      (Option.bind (aggOf? 3 r_20.1) fun cs_21 =>
      (Option.bind (intOf? .i64 (cs_21[0]?)) fun x_22 =>
      (Option.bind (intOf? .i64 (cs_21[1]?)) fun x_23 =>
      (Option.bind (sliceOf? (cs_21[2]?)) fun s_24 =>
      (Option.bind (L.call 9 [.agg #[.int .i64 x_14, .int .i64 x_15, .slice s_16.1 s_16.2.1 s_16.2.2], .agg #[.int .i64 x_22, .int .i64 x_23, .slice s_24.1 s_24.2.1 s_24.2.2]] r_20.2) fun r_25 =>
      (Option.bind (sliceOf? (some r_25.1)) fun s_26 =>
      (Option.bind (intOf? .i64 (AMem.ld r_25.2 x5 0)) fun x_27 =>
      (Option.bind (intOf? .i64 (AMem.ld r_25.2 x5 1)) fun x_28 =>
      (Option.bind (sliceOf? (AMem.ld r_25.2 x5 2)) fun s_29 =>
      (Option.bind (L.call 7 [.agg #[.int .i64 x_27, .int .i64 x_28, .slice s_29.1 s_29.2.1 s_29.2.2]] r_25.2) fun r_30 =>
      (Option.bind (aggOf? 3 r_30.1) fun cs_31 =>
      (Option.bind (intOf? .i64 (cs_31[0]?)) fun x_32 =>
      (Option.bind (intOf? .i64 (cs_31[1]?)) fun x_33 =>
      (Option.bind (sliceOf? (cs_31[2]?)) fun s_34 =>
      (Option.bind (L.call 11 [.agg #[.int .i64 x_6, .int .i64 x_7, .slice s_8.1 s_8.2.1 s_8.2.2], .slice s_26.1 s_26.2.1 s_26.2.2, .agg #[.int .i64 x_32, .int .i64 x_33, .slice s_34.1 s_34.2.1 s_34.2.2]] r_30.2) fun r_35 =>
      (Option.bind (tupOf? 2 r_35.1) fun cs_36 =>
      (Option.bind (cs_36[0]?) fun u_37 =>
      (Option.bind (aggOf? 3 u_37) fun cs_38 =>
      (Option.bind (intOf? .i64 (cs_38[0]?)) fun x_39 =>
      (Option.bind (intOf? .i64 (cs_38[1]?)) fun x_40 =>
      (Option.bind (sliceOf? (cs_38[2]?)) fun s_41 =>
      (Option.bind (cs_36[1]?) fun u_42 =>
      (Option.bind (boolOf? (some u_42)) fun q_43 =>
      (Option.bind (AMem.wr r_35.2 (List.length M) 0 [.int .i64 x_39, .int .i64 x_40, .slice s_41.1 s_41.2.1 s_41.2.2]) fun M_44 =>
      (if chkOk [(2, 1), (4, 1), (4, 3), (7, 1), (7, 3), (7, 5), (7, 6), (13, 1), (13, 3), (13, 5), (13, 6), (13, 8), (13, 9)] [(13, (List.length M)), (7, x5), (4, x5), (2, x4)] [(9, (r_30.2, r_35.2)), (8, (r_25.2, r_30.2)), (6, (r_20.2, r_25.2)), (5, (r_12.2, r_20.2)), (3, (r_4.2, r_12.2)), (1, ((M ++ [AObj.cells [.int .i64 0, .int .i64 0, .slice none 0 0] ⟨false, 0⟩]), r_4.2))] = true
      then (Option.bind (intOf? .i64 (AMem.ld (M_44 ++ [AObj.cells [.int .i64 0, .int .i64 0, .slice none 0 0] ⟨false, 0⟩]) x4 0)) fun x_45 =>
        (Option.bind (intOf? .i64 (AMem.ld (M_44 ++ [AObj.cells [.int .i64 0, .int .i64 0, .slice none 0 0] ⟨false, 0⟩]) x4 1)) fun x_46 =>
        (Option.bind (sliceOf? (AMem.ld (M_44 ++ [AObj.cells [.int .i64 0, .int .i64 0, .slice none 0 0] ⟨false, 0⟩]) x4 2)) fun s_47 =>
        (Option.bind (L.call 7 [.agg #[.int .i64 x_45, .int .i64 x_46, .slice s_47.1 s_47.2.1 s_47.2.2]] (M_44 ++ [AObj.cells [.int .i64 0, .int .i64 0, .slice none 0 0] ⟨false, 0⟩])) fun r_48 =>
        (Option.bind (aggOf? 3 r_48.1) fun cs_49 =>
        (Option.bind (intOf? .i64 (cs_49[0]?)) fun x_50 =>
        (Option.bind (intOf? .i64 (cs_49[1]?)) fun x_51 =>
        (Option.bind (sliceOf? (cs_49[2]?)) fun s_52 =>
        (Option.bind (intOf? .i64 (AMem.ld r_48.2 x5 0)) fun x_53 =>
        (Option.bind (intOf? .i64 (AMem.ld r_48.2 x5 1)) fun x_54 =>
        (Option.bind (sliceOf? (AMem.ld r_48.2 x5 2)) fun s_55 =>
        (Option.bind (L.call 7 [.agg #[.int .i64 x_53, .int .i64 x_54, .slice s_55.1 s_55.2.1 s_55.2.2]] r_48.2) fun r_56 =>
        (Option.bind (aggOf? 3 r_56.1) fun cs_57 =>
        (Option.bind (intOf? .i64 (cs_57[0]?)) fun x_58 =>
        (Option.bind (intOf? .i64 (cs_57[1]?)) fun x_59 =>
        (Option.bind (sliceOf? (cs_57[2]?)) fun s_60 =>
        (Option.bind (L.call 11 [.agg #[.int .i64 x_50, .int .i64 x_51, .slice s_52.1 s_52.2.1 s_52.2.2], .slice none 0 0, .agg #[.int .i64 x_58, .int .i64 x_59, .slice s_60.1 s_60.2.1 s_60.2.2]] r_56.2) fun r_61 =>
        (Option.bind (tupOf? 2 r_61.1) fun cs_62 =>
        (Option.bind (cs_62[0]?) fun u_63 =>
        (Option.bind (aggOf? 3 u_63) fun cs_64 =>
        (Option.bind (intOf? .i64 (cs_64[0]?)) fun x_65 =>
        (Option.bind (intOf? .i64 (cs_64[1]?)) fun x_66 =>
        (Option.bind (sliceOf? (cs_64[2]?)) fun s_67 =>
        (Option.bind (cs_62[1]?) fun u_68 =>
        (Option.bind (boolOf? (some u_68)) fun q_69 =>
        (Option.bind (AMem.wr r_61.2 (List.length M_44) 0 [.int .i64 x_65, .int .i64 x_66, .slice s_67.1 s_67.2.1 s_67.2.2]) fun M_70 =>
        (if chkOk [(2, 1), (8, 1), (8, 3), (8, 4)] [(8, (List.length M_44)), (2, x5)] [(4, (r_56.2, r_61.2)), (3, (r_48.2, r_56.2)), (1, ((M_44 ++ [AObj.cells [.int .i64 0, .int .i64 0, .slice none 0 0] ⟨false, 0⟩]), r_48.2))] = true
        then P4_30 L x3 x4 x5 x9 (List.length M) q_43 (List.length M_44) M_70
        else none)))))))))))))))))))))))))))
      else none)))))))))))))))))))))))))))))))))))))))))))))) := by
  subst hP4_21; subst hP4_30; kernel_rfl
theorem P4_21_eq (L : Rec) (x3 : Int) (x4 : Nat) (x5 : Nat) (x9 : Nat) (x135 : Bool) (M : AMem) : P4_21 L x3 x4 x5 x9 x135 M =
  (if x135 = true
    then some (.bool false, M)
    else (Option.bind (intOf? .i64 (AMem.ld (M ++ [AObj.cells [.int .i64 0, .int .i64 0, .slice none 0 0] ⟨false, 0⟩]) x4 0)) fun x_1 =>
      (Option.bind (intOf? .i64 (AMem.ld (M ++ [AObj.cells [.int .i64 0, .int .i64 0, .slice none 0 0] ⟨false, 0⟩]) x4 1)) fun x_2 =>
      (Option.bind (sliceOf? (AMem.ld (M ++ [AObj.cells [.int .i64 0, .int .i64 0, .slice none 0 0] ⟨false, 0⟩]) x4 2)) fun s_3 =>
      (Option.bind (L.call 7 [.agg #[.int .i64 x_1, .int .i64 x_2, .slice s_3.1 s_3.2.1 s_3.2.2]] (M ++ [AObj.cells [.int .i64 0, .int .i64 0, .slice none 0 0] ⟨false, 0⟩])) fun r_4 =>
      (Option.bind (aggOf? 3 r_4.1) fun cs_5 =>
      (Option.bind (intOf? .i64 (cs_5[0]?)) fun x_6 =>
      (Option.bind (intOf? .i64 (cs_5[1]?)) fun x_7 =>
      (Option.bind (sliceOf? (cs_5[2]?)) fun s_8 =>
      (Option.bind (intOf? .i64 (AMem.ld r_4.2 x4 0)) fun x_9 =>
      (Option.bind (intOf? .i64 (AMem.ld r_4.2 x4 1)) fun x_10 =>
      (Option.bind (sliceOf? (AMem.ld r_4.2 x4 2)) fun s_11 =>
      (Option.bind (L.call 7 [.agg #[.int .i64 x_9, .int .i64 x_10, .slice s_11.1 s_11.2.1 s_11.2.2]] r_4.2) fun r_12 =>
      (Option.bind (aggOf? 3 r_12.1) fun cs_13 =>
      (Option.bind (intOf? .i64 (cs_13[0]?)) fun x_14 =>
      (Option.bind (intOf? .i64 (cs_13[1]?)) fun x_15 =>
      (Option.bind (sliceOf? (cs_13[2]?)) fun s_16 =>
      (Option.bind (intOf? .i64 (AMem.ld r_12.2 x5 0)) fun x_17 =>
      (Option.bind (intOf? .i64 (AMem.ld r_12.2 x5 1)) fun x_18 =>
      (Option.bind (sliceOf? (AMem.ld r_12.2 x5 2)) fun s_19 =>
      (Option.bind (L.call 7 [.agg #[.int .i64 x_17, .int .i64 x_18, .slice s_19.1 s_19.2.1 s_19.2.2]] r_12.2) fun r_20 =>
      (Option.bind (aggOf? 3 r_20.1) fun cs_21 =>
      (Option.bind (intOf? .i64 (cs_21[0]?)) fun x_22 =>
      (Option.bind (intOf? .i64 (cs_21[1]?)) fun x_23 =>
      (Option.bind (sliceOf? (cs_21[2]?)) fun s_24 =>
      (Option.bind (L.call 9 [.agg #[.int .i64 x_14, .int .i64 x_15, .slice s_16.1 s_16.2.1 s_16.2.2], .agg #[.int .i64 x_22, .int .i64 x_23, .slice s_24.1 s_24.2.1 s_24.2.2]] r_20.2) fun r_25 =>
      (Option.bind (sliceOf? (some r_25.1)) fun s_26 =>
      (Option.bind (intOf? .i64 (AMem.ld r_25.2 x5 0)) fun x_27 =>
      (Option.bind (intOf? .i64 (AMem.ld r_25.2 x5 1)) fun x_28 =>
      (Option.bind (sliceOf? (AMem.ld r_25.2 x5 2)) fun s_29 =>
      (Option.bind (L.call 7 [.agg #[.int .i64 x_27, .int .i64 x_28, .slice s_29.1 s_29.2.1 s_29.2.2]] r_25.2) fun r_30 =>
      (Option.bind (aggOf? 3 r_30.1) fun cs_31 =>
      (Option.bind (intOf? .i64 (cs_31[0]?)) fun x_32 =>
      (Option.bind (intOf? .i64 (cs_31[1]?)) fun x_33 =>
      (Option.bind (sliceOf? (cs_31[2]?)) fun s_34 =>
      (Option.bind (L.call 11 [.agg #[.int .i64 x_6, .int .i64 x_7, .slice s_8.1 s_8.2.1 s_8.2.2], .slice s_26.1 s_26.2.1 s_26.2.2, .agg #[.int .i64 x_32, .int .i64 x_33, .slice s_34.1 s_34.2.1 s_34.2.2]] r_30.2) fun r_35 =>
      (Option.bind (tupOf? 2 r_35.1) fun cs_36 =>
      (Option.bind (cs_36[0]?) fun u_37 =>
      (Option.bind (aggOf? 3 u_37) fun cs_38 =>
      (Option.bind (intOf? .i64 (cs_38[0]?)) fun x_39 =>
      (Option.bind (intOf? .i64 (cs_38[1]?)) fun x_40 =>
      (Option.bind (sliceOf? (cs_38[2]?)) fun s_41 =>
      (Option.bind (cs_36[1]?) fun u_42 =>
      (Option.bind (boolOf? (some u_42)) fun q_43 =>
      (Option.bind (AMem.wr r_35.2 (List.length M) 0 [.int .i64 x_39, .int .i64 x_40, .slice s_41.1 s_41.2.1 s_41.2.2]) fun M_44 =>
      (if chkOk [(2, 1), (4, 1), (4, 3), (7, 1), (7, 3), (7, 5), (7, 6), (13, 1), (13, 3), (13, 5), (13, 6), (13, 8), (13, 9)] [(13, (List.length M)), (7, x5), (4, x5), (2, x4)] [(9, (r_30.2, r_35.2)), (8, (r_25.2, r_30.2)), (6, (r_20.2, r_25.2)), (5, (r_12.2, r_20.2)), (3, (r_4.2, r_12.2)), (1, ((M ++ [AObj.cells [.int .i64 0, .int .i64 0, .slice none 0 0] ⟨false, 0⟩]), r_4.2))] = true
      then (Option.bind (intOf? .i64 (AMem.ld (M_44 ++ [AObj.cells [.int .i64 0, .int .i64 0, .slice none 0 0] ⟨false, 0⟩]) x4 0)) fun x_45 =>
        (Option.bind (intOf? .i64 (AMem.ld (M_44 ++ [AObj.cells [.int .i64 0, .int .i64 0, .slice none 0 0] ⟨false, 0⟩]) x4 1)) fun x_46 =>
        (Option.bind (sliceOf? (AMem.ld (M_44 ++ [AObj.cells [.int .i64 0, .int .i64 0, .slice none 0 0] ⟨false, 0⟩]) x4 2)) fun s_47 =>
        (Option.bind (L.call 7 [.agg #[.int .i64 x_45, .int .i64 x_46, .slice s_47.1 s_47.2.1 s_47.2.2]] (M_44 ++ [AObj.cells [.int .i64 0, .int .i64 0, .slice none 0 0] ⟨false, 0⟩])) fun r_48 =>
        (Option.bind (aggOf? 3 r_48.1) fun cs_49 =>
        (Option.bind (intOf? .i64 (cs_49[0]?)) fun x_50 =>
        (Option.bind (intOf? .i64 (cs_49[1]?)) fun x_51 =>
        (Option.bind (sliceOf? (cs_49[2]?)) fun s_52 =>
        (Option.bind (intOf? .i64 (AMem.ld r_48.2 x5 0)) fun x_53 =>
        (Option.bind (intOf? .i64 (AMem.ld r_48.2 x5 1)) fun x_54 =>
        (Option.bind (sliceOf? (AMem.ld r_48.2 x5 2)) fun s_55 =>
        (Option.bind (L.call 7 [.agg #[.int .i64 x_53, .int .i64 x_54, .slice s_55.1 s_55.2.1 s_55.2.2]] r_48.2) fun r_56 =>
        (Option.bind (aggOf? 3 r_56.1) fun cs_57 =>
        (Option.bind (intOf? .i64 (cs_57[0]?)) fun x_58 =>
        (Option.bind (intOf? .i64 (cs_57[1]?)) fun x_59 =>
        (Option.bind (sliceOf? (cs_57[2]?)) fun s_60 =>
        (Option.bind (L.call 11 [.agg #[.int .i64 x_50, .int .i64 x_51, .slice s_52.1 s_52.2.1 s_52.2.2], .slice none 0 0, .agg #[.int .i64 x_58, .int .i64 x_59, .slice s_60.1 s_60.2.1 s_60.2.2]] r_56.2) fun r_61 =>
        (Option.bind (tupOf? 2 r_61.1) fun cs_62 =>
        (Option.bind (cs_62[0]?) fun u_63 =>
        (Option.bind (aggOf? 3 u_63) fun cs_64 =>
        (Option.bind (intOf? .i64 (cs_64[0]?)) fun x_65 =>
        (Option.bind (intOf? .i64 (cs_64[1]?)) fun x_66 =>
        (Option.bind (sliceOf? (cs_64[2]?)) fun s_67 =>
        (Option.bind (cs_62[1]?) fun u_68 =>
        (Option.bind (boolOf? (some u_68)) fun q_69 =>
        (Option.bind (AMem.wr r_61.2 (List.length M_44) 0 [.int .i64 x_65, .int .i64 x_66, .slice s_67.1 s_67.2.1 s_67.2.2]) fun M_70 =>
        (if chkOk [(2, 1), (8, 1), (8, 3), (8, 4)] [(8, (List.length M_44)), (2, x5)] [(4, (r_56.2, r_61.2)), (3, (r_48.2, r_56.2)), (1, ((M_44 ++ [AObj.cells [.int .i64 0, .int .i64 0, .slice none 0 0] ⟨false, 0⟩]), r_48.2))] = true
        then P4_30 L x3 x4 x5 x9 (List.length M) q_43 (List.length M_44) M_70
        else none)))))))))))))))))))))))))))
      else none)))))))))))))))))))))))))))))))))))))))))))))) := QP4_21_eq L c4_30 P4_21 (Classical.choose_spec XP4_21) P4_30 (Classical.choose_spec XP4_30) x3 x4 x5 x9 x135 M
theorem QP4_30_eq (L : Rec) (c4_34 : ACode) (P4_30 : Rec → Int → Nat → Nat → Nat → Nat → Bool → Nat → AMem → Res) (hP4_30 : P4_30 = fun (L : Rec) (x3 : Int) (x4 : Nat) (x5 : Nat) (x9 : Nat) (x17 : Nat) (x18 : Bool) (x19 : Nat) (M : AMem) => code L (.seq (.draw f4_31 0 o4_31 [(2, 1), (11, 1), (11, 3), (11, 7)]) (.seq (.draw f4_33 0 o4_33 [(2, 1), (7, 1), (7, 3)]) (.clear [0, 1, 2, 3, 6, 7, 8, 10, 11, 12, 13, 14, 15, 16, 20, 21, 24, 25, 26, 27, 28, 29, 30, 31, 32, 33, 34, 35, 36, 37, 38, 39, 40, 41, 42, 43, 44, 45, 46, 47, 48, 49, 50, 51, 52, 53, 54, 55, 56, 57, 58, 59, 60, 61, 62, 63, 64, 65, 66, 67, 68, 69, 70, 71, 72, 73, 74, 75, 76, 77, 78, 79, 80, 81, 82, 83, 84, 85, 86, 87, 88, 89, 90, 91, 92, 93, 94, 95, 96, 97, 98, 99, 100, 101, 102, 103, 104, 105, 106, 107, 108, 109, 110, 111, 112, 113, 114, 115, 116, 117, 118, 119, 120, 121, 122, 123, 124, 125, 126, 127, 128, 129, 130, 131, 132, 133, 134, 135, 136, 137, 138, 139, 140, 141, 142, 143, 144, 145, 146, 147, 148, 149, 150, 151, 152, 153, 154, 155, 156, 157, 158, 159, 160, 161, 162, 163, 164, 165, 166, 167, 168, 169, 170, 171, 172, 173, 174, 175, 176, 177, 178, 179, 180, 181, 182, 183, 184, 185, 186, 187, 188, 189, 190, 191, 192, 193, 194, 195, 196, 197, 198, 199, 200, 201, 202, 203, 204, 205, 206, 207, 208, 209, 210, 211, 212, 213, 214, 215, 216, 217, 218, 219, 220, 221, 222, 223, 224, 225, 226, 227, 228, 229, 230, 231, 232, 233, 234, 235, 236, 237, 238, 239, 240, 241, 242, 243, 244, 245, 246, 247, 248, 249, 250, 251, 252, 253, 254, 255, 256, 257, 258] c4_34))) (retK [.tmp 8]) (s4_30 x3 x4 x5 x9 x17 x18 x19 M) M) (P4_34 : Rec → Nat → Nat → Nat → Nat → Bool → Nat → Bool → Nat → AMem → Res) (hP4_34 : P4_34 = fun (L : Rec) (x4 : Nat) (x5 : Nat) (x9 : Nat) (x17 : Nat) (x18 : Bool) (x19 : Nat) (x22 : Bool) (x23 : Nat) (M : AMem) => code L c4_34 (retK [.tmp 8]) (s4_34 x4 x5 x9 x17 x18 x19 x22 x23 M) M) (x3 : Int) (x4 : Nat) (x5 : Nat) (x9 : Nat) (x17 : Nat) (x18 : Bool) (x19 : Nat) (M : AMem) : P4_30 L x3 x4 x5 x9 x17 x18 x19 M =
  (Option.bind (intOf? .i64 (AMem.ld (M ++ [AObj.cells [.int .i64 0, .int .i64 0, .slice none 0 0] ⟨false, 0⟩]) x4 0)) fun x_1 =>
    (Option.bind (intOf? .i64 (AMem.ld (M ++ [AObj.cells [.int .i64 0, .int .i64 0, .slice none 0 0] ⟨false, 0⟩]) x4 1)) fun x_2 =>
    (Option.bind (sliceOf? (AMem.ld (M ++ [AObj.cells [.int .i64 0, .int .i64 0, .slice none 0 0] ⟨false, 0⟩]) x4 2)) fun s_3 =>
    (Option.bind (L.call 7 [.agg #[.int .i64 x_1, .int .i64 x_2, .slice s_3.1 s_3.2.1 s_3.2.2]] (M ++ [AObj.cells [.int .i64 0, .int .i64 0, .slice none 0 0] ⟨false, 0⟩])) fun r_4 =>
    (Option.bind (aggOf? 3 r_4.1) fun cs_5 =>
    (Option.bind (intOf? .i64 (cs_5[0]?)) fun x_6 =>
    (Option.bind (intOf? .i64 (cs_5[1]?)) fun x_7 =>
    (Option.bind (sliceOf? (cs_5[2]?)) fun s_8 =>
    (Option.bind (intOf? .i64 (AMem.ld r_4.2 x5 0)) fun x_9 =>
    (Option.bind (intOf? .i64 (AMem.ld r_4.2 x5 1)) fun x_10 =>
    (Option.bind (sliceOf? (AMem.ld r_4.2 x5 2)) fun s_11 =>
    (Option.bind (L.call 7 [.agg #[.int .i64 x_9, .int .i64 x_10, .slice s_11.1 s_11.2.1 s_11.2.2]] r_4.2) fun r_12 =>
    (Option.bind (aggOf? 3 r_12.1) fun cs_13 =>
    (Option.bind (intOf? .i64 (cs_13[0]?)) fun x_14 =>
    (Option.bind (intOf? .i64 (cs_13[1]?)) fun x_15 =>
    (Option.bind (sliceOf? (cs_13[2]?)) fun s_16 =>
    (Option.bind (L.call 13 [.agg #[.int .i64 x_6, .int .i64 x_7, .slice s_8.1 s_8.2.1 s_8.2.2], .agg #[.int .i64 x_14, .int .i64 x_15, .slice s_16.1 s_16.2.1 s_16.2.2], .int .i64 (Int.tmod (IntKind.wrap .i64 x3) 1001)] r_12.2) fun r_17 =>
    (Option.bind (tupOf? 2 r_17.1) fun cs_18 =>
    (Option.bind (cs_18[0]?) fun u_19 =>
    (Option.bind (aggOf? 3 u_19) fun cs_20 =>
    (Option.bind (intOf? .i64 (cs_20[0]?)) fun x_21 =>
    (Option.bind (intOf? .i64 (cs_20[1]?)) fun x_22 =>
    (Option.bind (sliceOf? (cs_20[2]?)) fun s_23 =>
    (Option.bind (cs_18[1]?) fun u_24 =>
    (Option.bind (boolOf? (some u_24)) fun q_25 =>
    (Option.bind (AMem.wr r_17.2 (List.length M) 0 [.int .i64 x_21, .int .i64 x_22, .slice s_23.1 s_23.2.1 s_23.2.2]) fun M_26 =>
    (if chkOk [(2, 1), (11, 1), (11, 3), (11, 7)] [(11, (List.length M)), (2, x5)] [(7, (r_12.2, r_17.2)), (3, (r_4.2, r_12.2)), (1, ((M ++ [AObj.cells [.int .i64 0, .int .i64 0, .slice none 0 0] ⟨false, 0⟩]), r_4.2))] = true
    then (Option.bind (intOf? .i64 (AMem.ld (M_26 ++ [AObj.cells [.int .i64 0, .int .i64 0, .int .i64 0, .int .i64 0] ⟨false, 0⟩]) x4 0)) fun x_27 =>
      (Option.bind (intOf? .i64 (AMem.ld (M_26 ++ [AObj.cells [.int .i64 0, .int .i64 0, .int .i64 0, .int .i64 0] ⟨false, 0⟩]) x4 1)) fun x_28 =>
      (Option.bind (sliceOf? (AMem.ld (M_26 ++ [AObj.cells [.int .i64 0, .int .i64 0, .int .i64 0, .int .i64 0] ⟨false, 0⟩]) x4 2)) fun s_29 =>
      (Option.bind (L.call 7 [.agg #[.int .i64 x_27, .int .i64 x_28, .slice s_29.1 s_29.2.1 s_29.2.2]] (M_26 ++ [AObj.cells [.int .i64 0, .int .i64 0, .int .i64 0, .int .i64 0] ⟨false, 0⟩])) fun r_30 =>
      (Option.bind (aggOf? 3 r_30.1) fun cs_31 =>
      (Option.bind (intOf? .i64 (cs_31[0]?)) fun x_32 =>
      (Option.bind (intOf? .i64 (cs_31[1]?)) fun x_33 =>
      (Option.bind (sliceOf? (cs_31[2]?)) fun s_34 =>
      (Option.bind (intOf? .i64 (AMem.ld r_30.2 (List.length M) 0)) fun x_35 =>
      (Option.bind (intOf? .i64 (AMem.ld r_30.2 (List.length M) 1)) fun x_36 =>
      (Option.bind (sliceOf? (AMem.ld r_30.2 (List.length M) 2)) fun s_37 =>
      (Option.bind (L.call 6 [.agg #[.int .i64 x_32, .int .i64 x_33, .slice s_34.1 s_34.2.1 s_34.2.2], .agg #[.int .i64 x_35, .int .i64 x_36, .slice s_37.1 s_37.2.1 s_37.2.2]] r_30.2) fun r_38 =>
      (Option.bind (tupOf? 2 r_38.1) fun cs_39 =>
      (Option.bind (cs_39[0]?) fun u_40 =>
      (Option.bind (aggOf? 4 u_40) fun cs_41 =>
      (Option.bind (intOf? .i64 (cs_41[0]?)) fun x_42 =>
      (Option.bind (intOf? .i64 (cs_41[1]?)) fun x_43 =>
      (Option.bind (intOf? .i64 (cs_41[2]?)) fun x_44 =>
      (Option.bind (intOf? .i64 (cs_41[3]?)) fun x_45 =>
      (Option.bind (cs_39[1]?) fun u_46 =>
      (Option.bind (boolOf? (some u_46)) fun q_47 =>
      (Option.bind (AMem.wr r_38.2 (List.length M_26) 0 [.int .i64 x_42, .int .i64 x_43, .int .i64 x_44, .int .i64 x_45]) fun M_48 =>
      (if chkOk [(2, 1), (7, 1), (7, 3)] [(7, (List.length M_26)), (2, (List.length M))] [(3, (r_30.2, r_38.2)), (1, ((M_26 ++ [AObj.cells [.int .i64 0, .int .i64 0, .int .i64 0, .int .i64 0] ⟨false, 0⟩]), r_30.2))] = true
      then P4_34 L x4 x5 x9 x17 x18 x19 q_25 (List.length M_26) M_48
      else none)))))))))))))))))))))))
    else none))))))))))))))))))))))))))) := by
  subst hP4_30; subst hP4_34; kernel_rfl
theorem P4_30_eq (L : Rec) (x3 : Int) (x4 : Nat) (x5 : Nat) (x9 : Nat) (x17 : Nat) (x18 : Bool) (x19 : Nat) (M : AMem) : P4_30 L x3 x4 x5 x9 x17 x18 x19 M =
  (Option.bind (intOf? .i64 (AMem.ld (M ++ [AObj.cells [.int .i64 0, .int .i64 0, .slice none 0 0] ⟨false, 0⟩]) x4 0)) fun x_1 =>
    (Option.bind (intOf? .i64 (AMem.ld (M ++ [AObj.cells [.int .i64 0, .int .i64 0, .slice none 0 0] ⟨false, 0⟩]) x4 1)) fun x_2 =>
    (Option.bind (sliceOf? (AMem.ld (M ++ [AObj.cells [.int .i64 0, .int .i64 0, .slice none 0 0] ⟨false, 0⟩]) x4 2)) fun s_3 =>
    (Option.bind (L.call 7 [.agg #[.int .i64 x_1, .int .i64 x_2, .slice s_3.1 s_3.2.1 s_3.2.2]] (M ++ [AObj.cells [.int .i64 0, .int .i64 0, .slice none 0 0] ⟨false, 0⟩])) fun r_4 =>
    (Option.bind (aggOf? 3 r_4.1) fun cs_5 =>
    (Option.bind (intOf? .i64 (cs_5[0]?)) fun x_6 =>
    (Option.bind (intOf? .i64 (cs_5[1]?)) fun x_7 =>
    (Option.bind (sliceOf? (cs_5[2]?)) fun s_8 =>
    (Option.bind (intOf? .i64 (AMem.ld r_4.2 x5 0)) fun x_9 =>
    (Option.bind (intOf? .i64 (AMem.ld r_4.2 x5 1)) fun x_10 =>
    (Option.bind (sliceOf? (AMem.ld r_4.2 x5 2)) fun s_11 =>
    (Option.bind (L.call 7 [.agg #[.int .i64 x_9, .int .i64 x_10, .slice s_11.1 s_11.2.1 s_11.2.2]] r_4.2) fun r_12 =>
    (Option.bind (aggOf? 3 r_12.1) fun cs_13 =>
    (Option.bind (intOf? .i64 (cs_13[0]?)) fun x_14 =>
    (Option.bind (intOf? .i64 (cs_13[1]?)) fun x_15 =>
    (Option.bind (sliceOf? (cs_13[2]?)) fun s_16 =>
    (Option.bind (L.call 13 [.agg #[.int .i64 x_6, .int .i64 x_7, .slice s_8.1 s_8.2.1 s_8.2.2], .agg #[.int .i64 x_14, .int .i64 x_15, .slice s_16.1 s_16.2.1 s_16.2.2], .int .i64 (Int.tmod (IntKind.wrap .i64 x3) 1001)] r_12.2) fun r_17 =>
    (Option.bind (tupOf? 2 r_17.1) fun cs_18 =>
    (Option.bind (cs_18[0]?) fun u_19 =>
    (Option.bind (aggOf? 3 u_19) fun cs_20 =>
    (Option.bind (intOf? .i64 (cs_20[0]?)) fun x_21 =>
    (Option.bind (intOf? .i64 (cs_20[1]?)) fun x_22 =>
    (Option.bind (sliceOf? (cs_20[2]?)) fun s_23 =>
    (Option.bind (cs_18[1]?) fun u_24 =>
    (Option.bind (boolOf? (some u_24)) fun q_25 =>
    (Option.bind (AMem.wr r_17.2 (List.length M) 0 [.int .i64 x_21, .int .i64 x_22, .slice s_23.1 s_23.2.1 s_23.2.2]) fun M_26 =>
    (if chkOk [(2, 1), (11, 1), (11, 3), (11, 7)] [(11, (List.length M)), (2, x5)] [(7, (r_12.2, r_17.2)), (3, (r_4.2, r_12.2)), (1, ((M ++ [AObj.cells [.int .i64 0, .int .i64 0, .slice none 0 0] ⟨false, 0⟩]), r_4.2))] = true
    then (Option.bind (intOf? .i64 (AMem.ld (M_26 ++ [AObj.cells [.int .i64 0, .int .i64 0, .int .i64 0, .int .i64 0] ⟨false, 0⟩]) x4 0)) fun x_27 =>
      (Option.bind (intOf? .i64 (AMem.ld (M_26 ++ [AObj.cells [.int .i64 0, .int .i64 0, .int .i64 0, .int .i64 0] ⟨false, 0⟩]) x4 1)) fun x_28 =>
      (Option.bind (sliceOf? (AMem.ld (M_26 ++ [AObj.cells [.int .i64 0, .int .i64 0, .int .i64 0, .int .i64 0] ⟨false, 0⟩]) x4 2)) fun s_29 =>
      (Option.bind (L.call 7 [.agg #[.int .i64 x_27, .int .i64 x_28, .slice s_29.1 s_29.2.1 s_29.2.2]] (M_26 ++ [AObj.cells [.int .i64 0, .int .i64 0, .int .i64 0, .int .i64 0] ⟨false, 0⟩])) fun r_30 =>
      (Option.bind (aggOf? 3 r_30.1) fun cs_31 =>
      (Option.bind (intOf? .i64 (cs_31[0]?)) fun x_32 =>
      (Option.bind (intOf? .i64 (cs_31[1]?)) fun x_33 =>
      (Option.bind (sliceOf? (cs_31[2]?)) fun s_34 =>
      (Option.bind (intOf? .i64 (AMem.ld r_30.2 (List.length M) 0)) fun x_35 =>
      (Option.bind (intOf? .i64 (AMem.ld r_30.2 (List.length M) 1)) fun x_36 =>
      (Option.bind (sliceOf? (AMem.ld r_30.2 (List.length M) 2)) fun s_37 =>
      (Option.bind (L.call 6 [.agg #[.int .i64 x_32, .int .i64 x_33, .slice s_34.1 s_34.2.1 s_34.2.2], .agg #[.int .i64 x_35, .int .i64 x_36, .slice s_37.1 s_37.2.1 s_37.2.2]] r_30.2) fun r_38 =>
      (Option.bind (tupOf? 2 r_38.1) fun cs_39 =>
      (Option.bind (cs_39[0]?) fun u_40 =>
      (Option.bind (aggOf? 4 u_40) fun cs_41 =>
      (Option.bind (intOf? .i64 (cs_41[0]?)) fun x_42 =>
      (Option.bind (intOf? .i64 (cs_41[1]?)) fun x_43 =>
      (Option.bind (intOf? .i64 (cs_41[2]?)) fun x_44 =>
      (Option.bind (intOf? .i64 (cs_41[3]?)) fun x_45 =>
      (Option.bind (cs_39[1]?) fun u_46 =>
      (Option.bind (boolOf? (some u_46)) fun q_47 =>
      (Option.bind (AMem.wr r_38.2 (List.length M_26) 0 [.int .i64 x_42, .int .i64 x_43, .int .i64 x_44, .int .i64 x_45]) fun M_48 =>
      (if chkOk [(2, 1), (7, 1), (7, 3)] [(7, (List.length M_26)), (2, (List.length M))] [(3, (r_30.2, r_38.2)), (1, ((M_26 ++ [AObj.cells [.int .i64 0, .int .i64 0, .int .i64 0, .int .i64 0] ⟨false, 0⟩]), r_30.2))] = true
      then P4_34 L x4 x5 x9 x17 x18 x19 q_25 (List.length M_26) M_48
      else none)))))))))))))))))))))))
    else none))))))))))))))))))))))))))) := QP4_30_eq L c4_34 P4_30 (Classical.choose_spec XP4_30) P4_34 (Classical.choose_spec XP4_34) x3 x4 x5 x9 x17 x18 x19 M
theorem QP4_34_eq (L : Rec) (c4_38 : ACode) (P4_34 : Rec → Nat → Nat → Nat → Nat → Bool → Nat → Bool → Nat → AMem → Res) (hP4_34 : P4_34 = fun (L : Rec) (x4 : Nat) (x5 : Nat) (x9 : Nat) (x17 : Nat) (x18 : Bool) (x19 : Nat) (x22 : Bool) (x23 : Nat) (M : AMem) => code L (.seq (.draw f4_35 0 o4_35 [(2, 1), (8, 1), (8, 3), (8, 4)]) (.seq (.draw f4_37 0 o4_37 [(2, 1), (8, 1), (8, 3), (8, 4)]) (.clear [0, 1, 2, 3, 6, 7, 8, 10, 11, 12, 13, 14, 15, 16, 20, 21, 24, 26, 28, 29, 30, 31, 32, 33, 34, 35, 36, 37, 38, 39, 40, 41, 42, 43, 44, 45, 46, 47, 48, 49, 50, 51, 52, 53, 54, 55, 56, 57, 58, 59, 60, 61, 62, 63, 64, 65, 66, 67, 68, 69, 70, 71, 72, 73, 74, 75, 76, 77, 78, 79, 80, 81, 82, 83, 84, 85, 86, 87, 88, 89, 90, 91, 92, 93, 94, 95, 96, 97, 98, 99, 100, 101, 102, 103, 104, 105, 106, 107, 108, 109, 110, 111, 112, 113, 114, 115, 116, 117, 118, 119, 120, 121, 122, 123, 124, 125, 126, 127, 128, 129, 130, 131, 132, 133, 134, 135, 136, 137, 138, 139, 140, 141, 142, 143, 144, 145, 146, 147, 148, 149, 150, 151, 152, 153, 154, 155, 156, 157, 158, 159, 160, 161, 162, 163, 164, 165, 166, 167, 168, 169, 170, 171, 172, 173, 174, 175, 176, 177, 178, 179, 180, 181, 182, 183, 184, 185, 186, 187, 188, 189, 190, 191, 192, 193, 194, 195, 196, 197, 198, 199, 200, 201, 202, 203, 204, 205, 206, 207, 208, 209, 210, 211, 212, 213, 214, 215, 216, 217, 218, 219, 220, 221, 222, 223, 224, 225, 226, 227, 228, 229, 230, 231, 232, 233, 234, 235, 236, 237, 238, 239, 240, 241, 242, 243, 244, 245, 246, 247, 248, 249, 250, 251, 252, 253, 254, 255, 256, 257, 258] c4_38))) (retK [.tmp 8]) (s4_34 x4 x5 x9 x17 x18 x19 x22 x23 M) M) (P4_38 : Rec → Nat → Nat → Nat → Nat → Bool → Nat → Bool → Nat → Nat → Nat → AMem → Res) (hP4_38 : P4_38 = fun (L : Rec) (x4 : Nat) (x5 : Nat) (x9 : Nat) (x17 : Nat) (x18 : Bool) (x19 : Nat) (x22 : Bool) (x23 : Nat) (x25 : Nat) (x27 : Nat) (M : AMem) => code L c4_38 (retK [.tmp 8]) (s4_38 x4 x5 x9 x17 x18 x19 x22 x23 x25 x27 M) M) (x4 : Nat) (x5 : Nat) (x9 : Nat) (x17 : Nat) (x18 : Bool) (x19 : Nat) (x22 : Bool) (x23 : Nat) (M : AMem) : P4_34 L x4 x5 x9 x17 x18 x19 x22 x23 M =
  (Option.bind (intOf? .i64 (AMem.ld (M ++ [AObj.cells [.int .i64 0, .int .i64 0, .slice none 0 0] ⟨false, 0⟩]) x4 0)) fun x_1 =>
    (Option.bind (intOf? .i64 (AMem.ld (M ++ [AObj.cells [.int .i64 0, .int .i64 0, .slice none 0 0] ⟨false, 0⟩]) x4 1)) fun x_2 =>
    (Option.bind (sliceOf? (AMem.ld (M ++ [AObj.cells [.int .i64 0, .int .i64 0, .slice none 0 0] ⟨false, 0⟩]) x4 2)) fun s_3 =>
    (Option.bind (L.call 7 [.agg #[.int .i64 x_1, .int .i64 x_2, .slice s_3.1 s_3.2.1 s_3.2.2]] (M ++ [AObj.cells [.int .i64 0, .int .i64 0, .slice none 0 0] ⟨false, 0⟩])) fun r_4 =>
    (Option.bind (aggOf? 3 r_4.1) fun cs_5 =>
    (Option.bind (intOf? .i64 (cs_5[0]?)) fun x_6 =>
    (Option.bind (intOf? .i64 (cs_5[1]?)) fun x_7 =>
    (Option.bind (sliceOf? (cs_5[2]?)) fun s_8 =>
    (Option.bind (intOf? .i64 (AMem.ld r_4.2 x5 0)) fun x_9 =>
    (Option.bind (intOf? .i64 (AMem.ld r_4.2 x5 1)) fun x_10 =>
    (Option.bind (sliceOf? (AMem.ld r_4.2 x5 2)) fun s_11 =>
    (Option.bind (L.call 7 [.agg #[.int .i64 x_9, .int .i64 x_10, .slice s_11.1 s_11.2.1 s_11.2.2]] r_4.2) fun r_12 =>
    (Option.bind (aggOf? 3 r_12.1) fun cs_13 =>
    (Option.bind (intOf? .i64 (cs_13[0]?)) fun x_14 =>
    (Option.bind (intOf? .i64 (cs_13[1]?)) fun x_15 =>
    (Option.bind (sliceOf? (cs_13[2]?)) fun s_16 =>
    (Option.bind (L.call 13 [.agg #[.int .i64 x_6, .int .i64 x_7, .slice s_8.1 s_8.2.1 s_8.2.2], .agg #[.int .i64 x_14, .int .i64 x_15, .slice s_16.1 s_16.2.1 s_16.2.2], .int .i64 0] r_12.2) fun r_17 =>
    (Option.bind (tupOf? 2 r_17.1) fun cs_18 =>
    (Option.bind (cs_18[0]?) fun u_19 =>
    (Option.bind (aggOf? 3 u_19) fun cs_20 =>
    (Option.bind (intOf? .i64 (cs_20[0]?)) fun x_21 =>
    (Option.bind (intOf? .i64 (cs_20[1]?)) fun x_22 =>
    (Option.bind (sliceOf? (cs_20[2]?)) fun s_23 =>
    (Option.bind (cs_18[1]?) fun u_24 =>
    (Option.bind (boolOf? (some u_24)) fun q_25 =>
    (Option.bind (AMem.wr r_17.2 (List.length M) 0 [.int .i64 x_21, .int .i64 x_22, .slice s_23.1 s_23.2.1 s_23.2.2]) fun M_26 =>
    (if chkOk [(2, 1), (8, 1), (8, 3), (8, 4)] [(8, (List.length M)), (2, x5)] [(4, (r_12.2, r_17.2)), (3, (r_4.2, r_12.2)), (1, ((M ++ [AObj.cells [.int .i64 0, .int .i64 0, .slice none 0 0] ⟨false, 0⟩]), r_4.2))] = true
    then (Option.bind (intOf? .i64 (AMem.ld (M_26 ++ [AObj.cells [.int .i64 0, .int .i64 0, .slice none 0 0] ⟨false, 0⟩]) x4 0)) fun x_27 =>
      (Option.bind (intOf? .i64 (AMem.ld (M_26 ++ [AObj.cells [.int .i64 0, .int .i64 0, .slice none 0 0] ⟨false, 0⟩]) x4 1)) fun x_28 =>
      (Option.bind (sliceOf? (AMem.ld (M_26 ++ [AObj.cells [.int .i64 0, .int .i64 0, .slice none 0 0] ⟨false, 0⟩]) x4 2)) fun s_29 =>
      (Option.bind (L.call 7 [.agg #[.int .i64 x_27, .int .i64 x_28, .slice s_29.1 s_29.2.1 s_29.2.2]] (M_26 ++ [AObj.cells [.int .i64 0, .int .i64 0, .slice none 0 0] ⟨false, 0⟩])) fun r_30 =>
      (Option.bind (aggOf? 3 r_30.1) fun cs_31 =>
      (Option.bind (intOf? .i64 (cs_31[0]?)) fun x_32 =>
      (Option.bind (intOf? .i64 (cs_31[1]?)) fun x_33 =>
      (Option.bind (sliceOf? (cs_31[2]?)) fun s_34 =>
      (Option.bind (intOf? .i64 (AMem.ld r_30.2 x5 0)) fun x_35 =>
      (Option.bind (intOf? .i64 (AMem.ld r_30.2 x5 1)) fun x_36 =>
      (Option.bind (sliceOf? (AMem.ld r_30.2 x5 2)) fun s_37 =>
      (Option.bind (L.call 7 [.agg #[.int .i64 x_35, .int .i64 x_36, .slice s_37.1 s_37.2.1 s_37.2.2]] r_30.2) fun r_38 =>
      (Option.bind (aggOf? 3 r_38.1) fun cs_39 =>
      (Option.bind (intOf? .i64 (cs_39[0]?)) fun x_40 =>
      (Option.bind (intOf? .i64 (cs_39[1]?)) fun x_41 =>
      (Option.bind (sliceOf? (cs_39[2]?)) fun s_42 =>
      (Option.bind (L.call 13 [.agg #[.int .i64 x_32, .int .i64 x_33, .slice s_34.1 s_34.2.1 s_34.2.2], .agg #[.int .i64 x_40, .int .i64 x_41, .slice s_42.1 s_42.2.1 s_42.2.2], .int .i64 1000] r_38.2) fun r_43 =>
      (Option.bind (tupOf? 2 r_43.1) fun cs_44 =>
      (Option.bind (cs_44[0]?) fun u_45 =>
      (Option.bind (aggOf? 3 u_45) fun cs_46 =>
      (Option.bind (intOf? .i64 (cs_46[0]?)) fun x_47 =>
      (Option.bind (intOf? .i64 (cs_46[1]?)) fun x_48 =>
      (Option.bind (sliceOf? (cs_46[2]?)) fun s_49 =>
      (Option.bind (cs_44[1]?) fun u_50 =>
      (Option.bind (boolOf? (some u_50)) fun q_51 =>
      (Option.bind (AMem.wr r_43.2 (List.length M_26) 0 [.int .i64 x_47, .int .i64 x_48, .slice s_49.1 s_49.2.1 s_49.2.2]) fun M_52 =>
      (if chkOk [(2, 1), (8, 1), (8, 3), (8, 4)] [(8, (List.length M_26)), (2, x5)] [(4, (r_38.2, r_43.2)), (3, (r_30.2, r_38.2)), (1, ((M_26 ++ [AObj.cells [.int .i64 0, .int .i64 0, .slice none 0 0] ⟨false, 0⟩]), r_30.2))] = true
      then P4_38 L x4 x5 x9 x17 x18 x19 x22 x23 (List.length M) (List.length M_26) M_52
      else none)))))))))))))))))))))))))))
    else none))))))))))))))))))))))))))) := by
  subst hP4_34; subst hP4_38; kernel_rfl
theorem P4_34_eq (L : Rec) (x4 : Nat) (x5 : Nat) (x9 : Nat) (x17 : Nat) (x18 : Bool) (x19 : Nat) (x22 : Bool) (x23 : Nat) (M : AMem) : P4_34 L x4 x5 x9 x17 x18 x19 x22 x23 M =
  (Option.bind (intOf? .i64 (AMem.ld (M ++ [AObj.cells [.int .i64 0, .int .i64 0, .slice none 0 0] ⟨false, 0⟩]) x4 0)) fun x_1 =>
    (Option.bind (intOf? .i64 (AMem.ld (M ++ [AObj.cells [.int .i64 0, .int .i64 0, .slice none 0 0] ⟨false, 0⟩]) x4 1)) fun x_2 =>
    (Option.bind (sliceOf? (AMem.ld (M ++ [AObj.cells [.int .i64 0, .int .i64 0, .slice none 0 0] ⟨false, 0⟩]) x4 2)) fun s_3 =>
    (Option.bind (L.call 7 [.agg #[.int .i64 x_1, .int .i64 x_2, .slice s_3.1 s_3.2.1 s_3.2.2]] (M ++ [AObj.cells [.int .i64 0, .int .i64 0, .slice none 0 0] ⟨false, 0⟩])) fun r_4 =>
    (Option.bind (aggOf? 3 r_4.1) fun cs_5 =>
    (Option.bind (intOf? .i64 (cs_5[0]?)) fun x_6 =>
    (Option.bind (intOf? .i64 (cs_5[1]?)) fun x_7 =>
    (Option.bind (sliceOf? (cs_5[2]?)) fun s_8 =>
    (Option.bind (intOf? .i64 (AMem.ld r_4.2 x5 0)) fun x_9 =>
    (Option.bind (intOf? .i64 (AMem.ld r_4.2 x5 1)) fun x_10 =>
    (Option.bind (sliceOf? (AMem.ld r_4.2 x5 2)) fun s_11 =>
    (Option.bind (L.call 7 [.agg #[.int .i64 x_9, .int .i64 x_10, .slice s_11.1 s_11.2.1 s_11.2.2]] r_4.2) fun r_12 =>
    (Option.bind (aggOf? 3 r_12.1) fun cs_13 =>
    (Option.bind (intOf? .i64 (cs_13[0]?)) fun x_14 =>
    (Option.bind (intOf? .i64 (cs_13[1]?)) fun x_15 =>
    (Option.bind (sliceOf? (cs_13[2]?)) fun s_16 =>
    (Option.bind (L.call 13 [.agg #[.int .i64 x_6, .int .i64 x_7, .slice s_8.1 s_8.2.1 s_8.2.2], .agg #[.int .i64 x_14, .int .i64 x_15, .slice s_16.1 s_16.2.1 s_16.2.2], .int .i64 0] r_12.2) fun r_17 =>
    (Option.bind (tupOf? 2 r_17.1) fun cs_18 =>
    (Option.bind (cs_18[0]?) fun u_19 =>
    (Option.bind (aggOf? 3 u_19) fun cs_20 =>
    (Option.bind (intOf? .i64 (cs_20[0]?)) fun x_21 =>
    (Option.bind (intOf? .i64 (cs_20[1]?)) fun x_22 =>
    (Option.bind (sliceOf? (cs_20[2]?)) fun s_23 =>
    (Option.bind (cs_18[1]?) fun u_24 =>
    (Option.bind (boolOf? (some u_24)) fun q_25 =>
    (Option.bind (AMem.wr r_17.2 (List.length M) 0 [.int .i64 x_21, .int .i64 x_22, .slice s_23.1 s_23.2.1 s_23.2.2]) fun M_26 =>
    (if chkOk [(2, 1), (8, 1), (8, 3), (8, 4)] [(8, (List.length M)), (2, x5)] [(4, (r_12.2, r_17.2)), (3, (r_4.2, r_12.2)), (1, ((M ++ [AObj.cells [.int .i64 0, .int .i64 0, .slice none 0 0] ⟨false, 0⟩]), r_4.2))] = true
    then (Option.bind (intOf? .i64 (AMem.ld (M_26 ++ [AObj.cells [.int .i64 0, .int .i64 0, .slice none 0 0] ⟨false, 0⟩]) x4 0)) fun x_27 =>
      (Option.bind (intOf? .i64 (AMem.ld (M_26 ++ [AObj.cells [.int .i64 0, .int .i64 0, .slice none 0 0] ⟨false, 0⟩]) x4 1)) fun x_28 =>
      (Option.bind (sliceOf? (AMem.ld (M_26 ++ [AObj.cells [.int .i64 0, .int .i64 0, .slice none 0 0] ⟨false, 0⟩]) x4 2)) fun s_29 =>
      (Option.bind (L.call 7 [.agg #[.int .i64 x_27, .int .i64 x_28, .slice s_29.1 s_29.2.1 s_29.2.2]] (M_26 ++ [AObj.cells [.int .i64 0, .int .i64 0, .slice none 0 0] ⟨false, 0⟩])) fun r_30 =>
      (Option.bind (aggOf? 3 r_30.1) fun cs_31 =>
      (Option.bind (intOf? .i64 (cs_31[0]?)) fun x_32 =>
      (Option.bind (intOf? .i64 (cs_31[1]?)) fun x_33 =>
      (Option.bind (sliceOf? (cs_31[2]?)) fun s_34 =>
      (Option.bind (intOf? .i64 (AMem.ld r_30.2 x5 0)) fun x_35 =>
      (Option.bind (intOf? .i64 (AMem.ld r_30.2 x5 1)) fun x_36 =>
      (Option.bind (sliceOf? (AMem.ld r_30.2 x5 2)) fun s_37 =>
      (Option.bind (L.call 7 [.agg #[.int .i64 x_35, .int .i64 x_36, .slice s_37.1 s_37.2.1 s_37.2.2]] r_30.2) fun r_38 =>
      (Option.bind (aggOf? 3 r_38.1) fun cs_39 =>
      (Option.bind (intOf? .i64 (cs_39[0]?)) fun x_40 =>
      (Option.bind (intOf? .i64 (cs_39[1]?)) fun x_41 =>
      (Option.bind (sliceOf? (cs_39[2]?)) fun s_42 =>
      (Option.bind (L.call 13 [.agg #[.int .i64 x_32, .int .i64 x_33, .slice s_34.1 s_34.2.1 s_34.2.2], .agg #[.int .i64 x_40, .int .i64 x_41, .slice s_42.1 s_42.2.1 s_42.2.2], .int .i64 1000] r_38.2) fun r_43 =>
      (Option.bind (tupOf? 2 r_43.1) fun cs_44 =>
      (Option.bind (cs_44[0]?) fun u_45 =>
      (Option.bind (aggOf? 3 u_45) fun cs_46 =>
      (Option.bind (intOf? .i64 (cs_46[0]?)) fun x_47 =>
      (Option.bind (intOf? .i64 (cs_46[1]?)) fun x_48 =>
      (Option.bind (sliceOf? (cs_46[2]?)) fun s_49 =>
      (Option.bind (cs_44[1]?) fun u_50 =>
      (Option.bind (boolOf? (some u_50)) fun q_51 =>
      (Option.bind (AMem.wr r_43.2 (List.length M_26) 0 [.int .i64 x_47, .int .i64 x_48, .slice s_49.1 s_49.2.1 s_49.2.2]) fun M_52 =>
      (if chkOk [(2, 1), (8, 1), (8, 3), (8, 4)] [(8, (List.length M_26)), (2, x5)] [(4, (r_38.2, r_43.2)), (3, (r_30.2, r_38.2)), (1, ((M_26 ++ [AObj.cells [.int .i64 0, .int .i64 0, .slice none 0 0] ⟨false, 0⟩]), r_30.2))] = true
      then P4_38 L x4 x5 x9 x17 x18 x19 x22 x23 (List.length M) (List.length M_26) M_52
      else none)))))))))))))))))))))))))))
    else none))))))))))))))))))))))))))) := QP4_34_eq L c4_38 P4_34 (Classical.choose_spec XP4_34) P4_38 (Classical.choose_spec XP4_38) x4 x5 x9 x17 x18 x19 x22 x23 M
theorem QP4_38_eq (L : Rec) (P4_38 : Rec → Nat → Nat → Nat → Nat → Bool → Nat → Bool → Nat → Nat → Nat → AMem → Res) (hP4_38 : P4_38 = fun (L : Rec) (x4 : Nat) (x5 : Nat) (x9 : Nat) (x17 : Nat) (x18 : Bool) (x19 : Nat) (x22 : Bool) (x23 : Nat) (x25 : Nat) (x27 : Nat) (M : AMem) => code L (.seq (.draw [] 0 o4_39 [(7, 6), (13, 12), (19, 18), (25, 24)]) (.ret)) (retK [.tmp 8]) (s4_38 x4 x5 x9 x17 x18 x19 x22 x23 x25 x27 M) M) (x4 : Nat) (x5 : Nat) (x9 : Nat) (x17 : Nat) (x18 : Bool) (x19 : Nat) (x22 : Bool) (x23 : Nat) (x25 : Nat) (x27 : Nat) (M : AMem) : P4_38 L x4 x5 x9 x17 x18 x19 x22 x23 x25 x27 M =
  (if x18 = true
    then (if x22 = true
      then (Option.bind (intOf? .i64 (AMem.ld M x17 0)) fun x_1 =>
        (Option.bind (intOf? .i64 (AMem.ld M x17 1)) fun x_2 =>
        (Option.bind (sliceOf? (AMem.ld M x17 2)) fun s_3 =>
        (Option.bind (L.call 16 [.agg #[.int .i64 x_1, .int .i64 x_2, .slice s_3.1 s_3.2.1 s_3.2.2]] M) fun r_4 =>
        (Option.bind (aggOf? 3 r_4.1) fun cs_5 =>
        (Option.bind (intOf? .i64 (cs_5[0]?)) fun x_6 =>
        (Option.bind (intOf? .i64 (cs_5[1]?)) fun x_7 =>
        (Option.bind (sliceOf? (cs_5[2]?)) fun s_8 =>
        (Option.bind (intOf? .i64 (AMem.ld r_4.2 x5 0)) fun x_9 =>
        (Option.bind (intOf? .i64 (AMem.ld r_4.2 x5 1)) fun x_10 =>
        (Option.bind (sliceOf? (AMem.ld r_4.2 x5 2)) fun s_11 =>
        (Option.bind (L.call 15 [.agg #[.int .i64 x_6, .int .i64 x_7, .slice s_8.1 s_8.2.1 s_8.2.2], .agg #[.int .i64 x_9, .int .i64 x_10, .slice s_11.1 s_11.2.1 s_11.2.2]] r_4.2) fun r_12 =>
        (Option.bind (boolOf? (some r_12.1)) fun q_13 =>
        (if q_13 = true
        then (Option.bind (intOf? .i64 (AMem.ld r_12.2 x19 0)) fun x_14 =>
          (Option.bind (intOf? .i64 (AMem.ld r_12.2 x19 1)) fun x_15 =>
          (Option.bind (sliceOf? (AMem.ld r_12.2 x19 2)) fun s_16 =>
          (Option.bind (L.call 16 [.agg #[.int .i64 x_14, .int .i64 x_15, .slice s_16.1 s_16.2.1 s_16.2.2]] r_12.2) fun r_17 =>
          (Option.bind (aggOf? 3 r_17.1) fun cs_18 =>
          (Option.bind (intOf? .i64 (cs_18[0]?)) fun x_19 =>
          (Option.bind (intOf? .i64 (cs_18[1]?)) fun x_20 =>
          (Option.bind (sliceOf? (cs_18[2]?)) fun s_21 =>
          (Option.bind (intOf? .i64 (AMem.ld r_17.2 x4 0)) fun x_22 =>
          (Option.bind (intOf? .i64 (AMem.ld r_17.2 x4 1)) fun x_23 =>
          (Option.bind (sliceOf? (AMem.ld r_17.2 x4 2)) fun s_24 =>
          (Option.bind (L.call 15 [.agg #[.int .i64 x_19, .int .i64 x_20, .slice s_21.1 s_21.2.1 s_21.2.2], .agg #[.int .i64 x_22, .int .i64 x_23, .slice s_24.1 s_24.2.1 s_24.2.2]] r_17.2) fun r_25 =>
          (Option.bind (boolOf? (some r_25.1)) fun q_26 =>
          (if q_26 = true
          then (Option.bind (intOf? .i64 (AMem.ld r_25.2 x25 0)) fun x_27 =>
            (Option.bind (intOf? .i64 (AMem.ld r_25.2 x25 1)) fun x_28 =>
            (Option.bind (sliceOf? (AMem.ld r_25.2 x25 2)) fun s_29 =>
            (Option.bind (L.call 16 [.agg #[.int .i64 x_27, .int .i64 x_28, .slice s_29.1 s_29.2.1 s_29.2.2]] r_25.2) fun r_30 =>
            (Option.bind (aggOf? 3 r_30.1) fun cs_31 =>
            (Option.bind (intOf? .i64 (cs_31[0]?)) fun x_32 =>
            (Option.bind (intOf? .i64 (cs_31[1]?)) fun x_33 =>
            (Option.bind (sliceOf? (cs_31[2]?)) fun s_34 =>
            (Option.bind (intOf? .i64 (AMem.ld r_30.2 x4 0)) fun x_35 =>
            (Option.bind (intOf? .i64 (AMem.ld r_30.2 x4 1)) fun x_36 =>
            (Option.bind (sliceOf? (AMem.ld r_30.2 x4 2)) fun s_37 =>
            (Option.bind (L.call 15 [.agg #[.int .i64 x_32, .int .i64 x_33, .slice s_34.1 s_34.2.1 s_34.2.2], .agg #[.int .i64 x_35, .int .i64 x_36, .slice s_37.1 s_37.2.1 s_37.2.2]] r_30.2) fun r_38 =>
            (Option.bind (boolOf? (some r_38.1)) fun q_39 =>
            (if q_39 = true
            then (Option.bind (intOf? .i64 (AMem.ld r_38.2 x27 0)) fun x_40 =>
              (Option.bind (intOf? .i64 (AMem.ld r_38.2 x27 1)) fun x_41 =>
              (Option.bind (sliceOf? (AMem.ld r_38.2 x27 2)) fun s_42 =>
              (Option.bind (L.call 16 [.agg #[.int .i64 x_40, .int .i64 x_41, .slice s_42.1 s_42.2.1 s_42.2.2]] r_38.2) fun r_43 =>
              (Option.bind (aggOf? 3 r_43.1) fun cs_44 =>
              (Option.bind (intOf? .i64 (cs_44[0]?)) fun x_45 =>
              (Option.bind (intOf? .i64 (cs_44[1]?)) fun x_46 =>
              (Option.bind (sliceOf? (cs_44[2]?)) fun s_47 =>
              (Option.bind (intOf? .i64 (AMem.ld r_43.2 x5 0)) fun x_48 =>
              (Option.bind (intOf? .i64 (AMem.ld r_43.2 x5 1)) fun x_49 =>
              (Option.bind (sliceOf? (AMem.ld r_43.2 x5 2)) fun s_50 =>
              (Option.bind (L.call 15 [.agg #[.int .i64 x_45, .int .i64 x_46, .slice s_47.1 s_47.2.1 s_47.2.2], .agg #[.int .i64 x_48, .int .i64 x_49, .slice s_50.1 s_50.2.1 s_50.2.2]] r_43.2) fun r_51 =>
              (Option.bind (boolOf? (some r_51.1)) fun q_52 =>
              (if q_52 = true
              then (Option.bind (intOf? .i64 (AMem.ld r_51.2 x23 1)) fun x_53 =>
                (Option.bind (intOf? .i64 (AMem.ld r_51.2 x9 1)) fun x_54 =>
                (if (decide (x_53 ≤ x_54)) = true
                then (Option.bind (intOf? .i64 (AMem.ld r_51.2 x9 1)) fun x_55 =>
                  (Option.bind (intOf? .i64 (AMem.ld r_51.2 x9 1)) fun x_56 =>
                  (Option.bind (intOf? .i64 (AMem.ld r_51.2 x9 3)) fun x_57 =>
                  (if (decide ((IntKind.wrap .i64 (x_55 * x_56)) ≤ x_57)) = true
                  then (Option.bind (intOf? .i64 (AMem.ld r_51.2 x9 3)) fun x_58 =>
                    (Option.bind (intOf? .i64 (AMem.ld r_51.2 x9 1)) fun x_59 =>
                    (Option.bind (intOf? .i64 (AMem.ld r_51.2 x9 2)) fun x_60 =>
                    (if (decide (x_58 ≤ (IntKind.wrap .i64 (x_59 * x_60)))) = true
                    then (Option.bind (intOf? .i64 (AMem.ld r_51.2 x9 0)) fun x_61 =>
                      (Option.bind (intOf? .i64 (AMem.ld r_51.2 x9 1)) fun x_62 =>
                      (Option.bind (intOf? .i64 (AMem.ld r_51.2 x9 2)) fun x_63 =>
                      (Option.bind (intOf? .i64 (AMem.ld r_51.2 x9 3)) fun x_64 =>
                      (Option.bind (sliceOf? (AMem.ld r_51.2 x4 2)) fun s_65 =>
                      (Option.bind (L.call 17 [.agg #[.int .i64 x_61, .int .i64 x_62, .int .i64 x_63, .int .i64 x_64], .int .i64 (Int.ofNat s_65.2.1)] []) fun r_66 =>
                      (Option.bind (intOf? .i64 (some r_66.1)) fun x_67 =>
                      (Option.bind (intOf? .i64 (AMem.ld r_51.2 x9 1)) fun x_68 =>
                      (if (decide (x_67 ≤ x_68)) = true
                      then (Option.bind (L.call 5 [] []) fun r_69 =>
                        (Option.bind (boolOf? (some r_69.1)) fun q_70 =>
                        (if chkOk [(7, 6), (13, 12), (19, 18), (25, 24)] [(25, x5), (19, x4), (13, x4), (7, x5)] [(24, (r_38.2, r_43.2)), (18, (r_25.2, r_30.2)), (12, (r_12.2, r_17.2)), (6, (M, r_4.2))] = true
                        then some (.bool q_70, r_51.2)
                        else none)))
                      else (if chkOk [(7, 6), (13, 12), (19, 18), (25, 24)] [(25, x5), (19, x4), (13, x4), (7, x5)] [(24, (r_38.2, r_43.2)), (18, (r_25.2, r_30.2)), (12, (r_12.2, r_17.2)), (6, (M, r_4.2))] = true
                        then some (.bool false, r_51.2)
                        else none))))))))))
                    else (if chkOk [(7, 6), (13, 12), (19, 18), (25, 24)] [(25, x5), (19, x4), (13, x4), (7, x5)] [(24, (r_38.2, r_43.2)), (18, (r_25.2, r_30.2)), (12, (r_12.2, r_17.2)), (6, (M, r_4.2))] = true
                      then some (.bool false, r_51.2)
                      else none)))))
                  else (if chkOk [(7, 6), (13, 12), (19, 18), (25, 24)] [(25, x5), (19, x4), (13, x4), (7, x5)] [(24, (r_38.2, r_43.2)), (18, (r_25.2, r_30.2)), (12, (r_12.2, r_17.2)), (6, (M, r_4.2))] = true
                    then some (.bool false, r_51.2)
                    else none)))))
                else (if chkOk [(7, 6), (13, 12), (19, 18), (25, 24)] [(25, x5), (19, x4), (13, x4), (7, x5)] [(24, (r_38.2, r_43.2)), (18, (r_25.2, r_30.2)), (12, (r_12.2, r_17.2)), (6, (M, r_4.2))] = true
                  then some (.bool false, r_51.2)
                  else none))))
              else (if chkOk [(7, 6), (13, 12), (19, 18), (25, 24)] [(25, x5), (19, x4), (13, x4), (7, x5)] [(24, (r_38.2, r_43.2)), (18, (r_25.2, r_30.2)), (12, (r_12.2, r_17.2)), (6, (M, r_4.2))] = true
                then some (.bool false, r_51.2)
                else none)))))))))))))))
            else (if chkOk [(7, 6), (13, 12), (19, 18), (25, 24)] [(25, x5), (19, x4), (13, x4), (7, x5)] [(24, (r_38.2, r_38.2)), (18, (r_25.2, r_30.2)), (12, (r_12.2, r_17.2)), (6, (M, r_4.2))] = true
              then some (.bool false, r_38.2)
              else none)))))))))))))))
          else (if chkOk [(7, 6), (13, 12), (19, 18), (25, 24)] [(25, x5), (19, x4), (13, x4), (7, x5)] [(24, (r_25.2, r_25.2)), (18, (r_25.2, r_25.2)), (12, (r_12.2, r_17.2)), (6, (M, r_4.2))] = true
            then some (.bool false, r_25.2)
            else none)))))))))))))))
        else (if chkOk [(7, 6), (13, 12), (19, 18), (25, 24)] [(25, x5), (19, x4), (13, x4), (7, x5)] [(24, (r_12.2, r_12.2)), (18, (r_12.2, r_12.2)), (12, (r_12.2, r_12.2)), (6, (M, r_4.2))] = true
          then some (.bool false, r_12.2)
          else none)))))))))))))))
      else (if chkOk [(7, 6), (13, 12), (19, 18), (25, 24)] [(25, x5), (19, x4), (13, x4), (7, x5)] [(24, (M, M)), (18, (M, M)), (12, (M, M)), (6, (M, M))] = true
        then some (.bool false, M)
        else none))
    else (if chkOk [(7, 6), (13, 12), (19, 18), (25, 24)] [(25, x5), (19, x4), (13, x4), (7, x5)] [(24, (M, M)), (18, (M, M)), (12, (M, M)), (6, (M, M))] = true
      then some (.bool false, M)
      else none)) := by
  subst hP4_38; kernel_rfl
theorem P4_38_eq (L : Rec) (x4 : Nat) (x5 : Nat) (x9 : Nat) (x17 : Nat) (x18 : Bool) (x19 : Nat) (x22 : Bool) (x23 : Nat) (x25 : Nat) (x27 : Nat) (M : AMem) : P4_38 L x4 x5 x9 x17 x18 x19 x22 x23 x25 x27 M =
  (if x18 = true
    then (if x22 = true
      then (Option.bind (intOf? .i64 (AMem.ld M x17 0)) fun x_1 =>
        (Option.bind (intOf? .i64 (AMem.ld M x17 1)) fun x_2 =>
        (Option.bind (sliceOf? (AMem.ld M x17 2)) fun s_3 =>
        (Option.bind (L.call 16 [.agg #[.int .i64 x_1, .int .i64 x_2, .slice s_3.1 s_3.2.1 s_3.2.2]] M) fun r_4 =>
        (Option.bind (aggOf? 3 r_4.1) fun cs_5 =>
        (Option.bind (intOf? .i64 (cs_5[0]?)) fun x_6 =>
        (Option.bind (intOf? .i64 (cs_5[1]?)) fun x_7 =>
        (Option.bind (sliceOf? (cs_5[2]?)) fun s_8 =>
        (Option.bind (intOf? .i64 (AMem.ld r_4.2 x5 0)) fun x_9 =>
        (Option.bind (intOf? .i64 (AMem.ld r_4.2 x5 1)) fun x_10 =>
        (Option.bind (sliceOf? (AMem.ld r_4.2 x5 2)) fun s_11 =>
        (Option.bind (L.call 15 [.agg #[.int .i64 x_6, .int .i64 x_7, .slice s_8.1 s_8.2.1 s_8.2.2], .agg #[.int .i64 x_9, .int .i64 x_10, .slice s_11.1 s_11.2.1 s_11.2.2]] r_4.2) fun r_12 =>
        (Option.bind (boolOf? (some r_12.1)) fun q_13 =>
        (if q_13 = true
        then (Option.bind (intOf? .i64 (AMem.ld r_12.2 x19 0)) fun x_14 =>
          (Option.bind (intOf? .i64 (AMem.ld r_12.2 x19 1)) fun x_15 =>
          (Option.bind (sliceOf? (AMem.ld r_12.2 x19 2)) fun s_16 =>
          (Option.bind (L.call 16 [.agg #[.int .i64 x_14, .int .i64 x_15, .slice s_16.1 s_16.2.1 s_16.2.2]] r_12.2) fun r_17 =>
          (Option.bind (aggOf? 3 r_17.1) fun cs_18 =>
          (Option.bind (intOf? .i64 (cs_18[0]?)) fun x_19 =>
          (Option.bind (intOf? .i64 (cs_18[1]?)) fun x_20 =>
          (Option.bind (sliceOf? (cs_18[2]?)) fun s_21 =>
          (Option.bind (intOf? .i64 (AMem.ld r_17.2 x4 0)) fun x_22 =>
          (Option.bind (intOf? .i64 (AMem.ld r_17.2 x4 1)) fun x_23 =>
          (Option.bind (sliceOf? (AMem.ld r_17.2 x4 2)) fun s_24 =>
          (Option.bind (L.call 15 [.agg #[.int .i64 x_19, .int .i64 x_20, .slice s_21.1 s_21.2.1 s_21.2.2], .agg #[.int .i64 x_22, .int .i64 x_23, .slice s_24.1 s_24.2.1 s_24.2.2]] r_17.2) fun r_25 =>
          (Option.bind (boolOf? (some r_25.1)) fun q_26 =>
          (if q_26 = true
          then (Option.bind (intOf? .i64 (AMem.ld r_25.2 x25 0)) fun x_27 =>
            (Option.bind (intOf? .i64 (AMem.ld r_25.2 x25 1)) fun x_28 =>
            (Option.bind (sliceOf? (AMem.ld r_25.2 x25 2)) fun s_29 =>
            (Option.bind (L.call 16 [.agg #[.int .i64 x_27, .int .i64 x_28, .slice s_29.1 s_29.2.1 s_29.2.2]] r_25.2) fun r_30 =>
            (Option.bind (aggOf? 3 r_30.1) fun cs_31 =>
            (Option.bind (intOf? .i64 (cs_31[0]?)) fun x_32 =>
            (Option.bind (intOf? .i64 (cs_31[1]?)) fun x_33 =>
            (Option.bind (sliceOf? (cs_31[2]?)) fun s_34 =>
            (Option.bind (intOf? .i64 (AMem.ld r_30.2 x4 0)) fun x_35 =>
            (Option.bind (intOf? .i64 (AMem.ld r_30.2 x4 1)) fun x_36 =>
            (Option.bind (sliceOf? (AMem.ld r_30.2 x4 2)) fun s_37 =>
            (Option.bind (L.call 15 [.agg #[.int .i64 x_32, .int .i64 x_33, .slice s_34.1 s_34.2.1 s_34.2.2], .agg #[.int .i64 x_35, .int .i64 x_36, .slice s_37.1 s_37.2.1 s_37.2.2]] r_30.2) fun r_38 =>
            (Option.bind (boolOf? (some r_38.1)) fun q_39 =>
            (if q_39 = true
            then (Option.bind (intOf? .i64 (AMem.ld r_38.2 x27 0)) fun x_40 =>
              (Option.bind (intOf? .i64 (AMem.ld r_38.2 x27 1)) fun x_41 =>
              (Option.bind (sliceOf? (AMem.ld r_38.2 x27 2)) fun s_42 =>
              (Option.bind (L.call 16 [.agg #[.int .i64 x_40, .int .i64 x_41, .slice s_42.1 s_42.2.1 s_42.2.2]] r_38.2) fun r_43 =>
              (Option.bind (aggOf? 3 r_43.1) fun cs_44 =>
              (Option.bind (intOf? .i64 (cs_44[0]?)) fun x_45 =>
              (Option.bind (intOf? .i64 (cs_44[1]?)) fun x_46 =>
              (Option.bind (sliceOf? (cs_44[2]?)) fun s_47 =>
              (Option.bind (intOf? .i64 (AMem.ld r_43.2 x5 0)) fun x_48 =>
              (Option.bind (intOf? .i64 (AMem.ld r_43.2 x5 1)) fun x_49 =>
              (Option.bind (sliceOf? (AMem.ld r_43.2 x5 2)) fun s_50 =>
              (Option.bind (L.call 15 [.agg #[.int .i64 x_45, .int .i64 x_46, .slice s_47.1 s_47.2.1 s_47.2.2], .agg #[.int .i64 x_48, .int .i64 x_49, .slice s_50.1 s_50.2.1 s_50.2.2]] r_43.2) fun r_51 =>
              (Option.bind (boolOf? (some r_51.1)) fun q_52 =>
              (if q_52 = true
              then (Option.bind (intOf? .i64 (AMem.ld r_51.2 x23 1)) fun x_53 =>
                (Option.bind (intOf? .i64 (AMem.ld r_51.2 x9 1)) fun x_54 =>
                (if (decide (x_53 ≤ x_54)) = true
                then (Option.bind (intOf? .i64 (AMem.ld r_51.2 x9 1)) fun x_55 =>
                  (Option.bind (intOf? .i64 (AMem.ld r_51.2 x9 1)) fun x_56 =>
                  (Option.bind (intOf? .i64 (AMem.ld r_51.2 x9 3)) fun x_57 =>
                  (if (decide ((IntKind.wrap .i64 (x_55 * x_56)) ≤ x_57)) = true
                  then (Option.bind (intOf? .i64 (AMem.ld r_51.2 x9 3)) fun x_58 =>
                    (Option.bind (intOf? .i64 (AMem.ld r_51.2 x9 1)) fun x_59 =>
                    (Option.bind (intOf? .i64 (AMem.ld r_51.2 x9 2)) fun x_60 =>
                    (if (decide (x_58 ≤ (IntKind.wrap .i64 (x_59 * x_60)))) = true
                    then (Option.bind (intOf? .i64 (AMem.ld r_51.2 x9 0)) fun x_61 =>
                      (Option.bind (intOf? .i64 (AMem.ld r_51.2 x9 1)) fun x_62 =>
                      (Option.bind (intOf? .i64 (AMem.ld r_51.2 x9 2)) fun x_63 =>
                      (Option.bind (intOf? .i64 (AMem.ld r_51.2 x9 3)) fun x_64 =>
                      (Option.bind (sliceOf? (AMem.ld r_51.2 x4 2)) fun s_65 =>
                      (Option.bind (L.call 17 [.agg #[.int .i64 x_61, .int .i64 x_62, .int .i64 x_63, .int .i64 x_64], .int .i64 (Int.ofNat s_65.2.1)] []) fun r_66 =>
                      (Option.bind (intOf? .i64 (some r_66.1)) fun x_67 =>
                      (Option.bind (intOf? .i64 (AMem.ld r_51.2 x9 1)) fun x_68 =>
                      (if (decide (x_67 ≤ x_68)) = true
                      then (Option.bind (L.call 5 [] []) fun r_69 =>
                        (Option.bind (boolOf? (some r_69.1)) fun q_70 =>
                        (if chkOk [(7, 6), (13, 12), (19, 18), (25, 24)] [(25, x5), (19, x4), (13, x4), (7, x5)] [(24, (r_38.2, r_43.2)), (18, (r_25.2, r_30.2)), (12, (r_12.2, r_17.2)), (6, (M, r_4.2))] = true
                        then some (.bool q_70, r_51.2)
                        else none)))
                      else (if chkOk [(7, 6), (13, 12), (19, 18), (25, 24)] [(25, x5), (19, x4), (13, x4), (7, x5)] [(24, (r_38.2, r_43.2)), (18, (r_25.2, r_30.2)), (12, (r_12.2, r_17.2)), (6, (M, r_4.2))] = true
                        then some (.bool false, r_51.2)
                        else none))))))))))
                    else (if chkOk [(7, 6), (13, 12), (19, 18), (25, 24)] [(25, x5), (19, x4), (13, x4), (7, x5)] [(24, (r_38.2, r_43.2)), (18, (r_25.2, r_30.2)), (12, (r_12.2, r_17.2)), (6, (M, r_4.2))] = true
                      then some (.bool false, r_51.2)
                      else none)))))
                  else (if chkOk [(7, 6), (13, 12), (19, 18), (25, 24)] [(25, x5), (19, x4), (13, x4), (7, x5)] [(24, (r_38.2, r_43.2)), (18, (r_25.2, r_30.2)), (12, (r_12.2, r_17.2)), (6, (M, r_4.2))] = true
                    then some (.bool false, r_51.2)
                    else none)))))
                else (if chkOk [(7, 6), (13, 12), (19, 18), (25, 24)] [(25, x5), (19, x4), (13, x4), (7, x5)] [(24, (r_38.2, r_43.2)), (18, (r_25.2, r_30.2)), (12, (r_12.2, r_17.2)), (6, (M, r_4.2))] = true
                  then some (.bool false, r_51.2)
                  else none))))
              else (if chkOk [(7, 6), (13, 12), (19, 18), (25, 24)] [(25, x5), (19, x4), (13, x4), (7, x5)] [(24, (r_38.2, r_43.2)), (18, (r_25.2, r_30.2)), (12, (r_12.2, r_17.2)), (6, (M, r_4.2))] = true
                then some (.bool false, r_51.2)
                else none)))))))))))))))
            else (if chkOk [(7, 6), (13, 12), (19, 18), (25, 24)] [(25, x5), (19, x4), (13, x4), (7, x5)] [(24, (r_38.2, r_38.2)), (18, (r_25.2, r_30.2)), (12, (r_12.2, r_17.2)), (6, (M, r_4.2))] = true
              then some (.bool false, r_38.2)
              else none)))))))))))))))
          else (if chkOk [(7, 6), (13, 12), (19, 18), (25, 24)] [(25, x5), (19, x4), (13, x4), (7, x5)] [(24, (r_25.2, r_25.2)), (18, (r_25.2, r_25.2)), (12, (r_12.2, r_17.2)), (6, (M, r_4.2))] = true
            then some (.bool false, r_25.2)
            else none)))))))))))))))
        else (if chkOk [(7, 6), (13, 12), (19, 18), (25, 24)] [(25, x5), (19, x4), (13, x4), (7, x5)] [(24, (r_12.2, r_12.2)), (18, (r_12.2, r_12.2)), (12, (r_12.2, r_12.2)), (6, (M, r_4.2))] = true
          then some (.bool false, r_12.2)
          else none)))))))))))))))
      else (if chkOk [(7, 6), (13, 12), (19, 18), (25, 24)] [(25, x5), (19, x4), (13, x4), (7, x5)] [(24, (M, M)), (18, (M, M)), (12, (M, M)), (6, (M, M))] = true
        then some (.bool false, M)
        else none))
    else (if chkOk [(7, 6), (13, 12), (19, 18), (25, 24)] [(25, x5), (19, x4), (13, x4), (7, x5)] [(24, (M, M)), (18, (M, M)), (12, (M, M)), (6, (M, M))] = true
      then some (.bool false, M)
      else none)) := QP4_38_eq L P4_38 (Classical.choose_spec XP4_38) x4 x5 x9 x17 x18 x19 x22 x23 x25 x27 M
theorem QE4 (L : Rec) (c4_12 : ACode) (P4_12 : Rec → Int → Nat → Nat → Nat → Nat → Bool → AMem → Res) (hP4_12 : P4_12 = fun (L : Rec) (x3 : Int) (x4 : Nat) (x5 : Nat) (x6 : Nat) (x9 : Nat) (x10 : Bool) (M : AMem) => code L c4_12 (retK [.tmp 8]) (s4_12 x3 x4 x5 x6 x9 x10 M) M) (x0_0 : Int) (x0_1 : Int) (x0_2 : Option Addr) (x0_2n : Nat) (x0_2c : Nat) (x1_0 : Int) (x1_1 : Int) (x1_2 : Option Addr) (x1_2n : Nat) (x1_2c : Nat) (x2_0 : Int) (x2_1 : Int) (x2_2 : Option Addr) (x2_2n : Nat) (x2_2c : Nat) (x3 : Int) (M : AMem) : enterF L ⟨259, [.tmp 8], .seq (.ops o4_1) (.seq (.seq (.ops o4_4) (.cond (.tmp 44) (.seq (.ops o4_7) (.ret)) (.skip))) (.seq (.draw f4_11 0 o4_11 [(2, 1), (8, 1), (8, 3), (8, 4)]) (.clear [0, 1, 2, 7, 8, 11, 12, 13, 14, 15, 16, 17, 18, 19, 20, 21, 22, 23, 24, 25, 26, 27, 28, 29, 30, 31, 32, 33, 34, 35, 36, 37, 38, 39, 40, 41, 42, 43, 44, 45, 46, 47, 48, 49, 50, 51, 52, 53, 54, 55, 56, 57, 58, 59, 60, 61, 62, 63, 64, 65, 66, 67, 68, 69, 70, 71, 72, 73, 74, 75, 76, 77, 78, 79, 80, 81, 82, 83, 84, 85, 86, 87, 88, 89, 90, 91, 92, 93, 94, 95, 96, 97, 98, 99, 100, 101, 102, 103, 104, 105, 106, 107, 108, 109, 110, 111, 112, 113, 114, 115, 116, 117, 118, 119, 120, 121, 122, 123, 124, 125, 126, 127, 128, 129, 130, 131, 132, 133, 134, 135, 136, 137, 138, 139, 140, 141, 142, 143, 144, 145, 146, 147, 148, 149, 150, 151, 152, 153, 154, 155, 156, 157, 158, 159, 160, 161, 162, 163, 164, 165, 166, 167, 168, 169, 170, 171, 172, 173, 174, 175, 176, 177, 178, 179, 180, 181, 182, 183, 184, 185, 186, 187, 188, 189, 190, 191, 192, 193, 194, 195, 196, 197, 198, 199, 200, 201, 202, 203, 204, 205, 206, 207, 208, 209, 210, 211, 212, 213, 214, 215, 216, 217, 218, 219, 220, 221, 222, 223, 224, 225, 226, 227, 228, 229, 230, 231, 232, 233, 234, 235, 236, 237, 238, 239, 240, 241, 242, 243, 244, 245, 246, 247, 248, 249, 250, 251, 252, 253, 254, 255, 256, 257, 258] c4_12)))⟩ [.agg #[.int .i64 x0_0, .int .i64 x0_1, .slice x0_2 x0_2n x0_2c], .agg #[.int .i64 x1_0, .int .i64 x1_1, .slice x1_2 x1_2n x1_2c], .agg #[.int .i64 x2_0, .int .i64 x2_1, .slice x2_2 x2_2n x2_2c], .int .u16 x3] M =
  (Option.bind (sliceOf? (AMem.ld (((M ++ [AObj.cells [.int .i64 x0_0, .int .i64 x0_1, .slice x0_2 x0_2n x0_2c] ⟨false, 0⟩]) ++ [AObj.cells [.int .i64 x1_0, .int .i64 x1_1, .slice x1_2 x1_2n x1_2c] ⟨false, 0⟩]) ++ [AObj.cells [.int .i64 x2_0, .int .i64 x2_1, .slice x2_2 x2_2n x2_2c] ⟨false, 0⟩]) (List.length M) 2)) fun s_1 =>
    (if (decide ((Int.ofNat s_1.2.1) > 30)) = true
    then (Option.bind (L.call 5 [] []) fun r_2 =>
      (Option.bind (boolOf? (some r_2.1)) fun q_3 =>
      some (.bool q_3, (((M ++ [AObj.cells [.int .i64 x0_0, .int .i64 x0_1, .slice x0_2 x0_2n x0_2c] ⟨false, 0⟩]) ++ [AObj.cells [.int .i64 x1_0, .int .i64 x1_1, .slice x1_2 x1_2n x1_2c] ⟨false, 0⟩]) ++ [AObj.cells [.int .i64 x2_0, .int .i64 x2_1, .slice x2_2 x2_2n x2_2c] ⟨false, 0⟩]))))
    else (Option.bind (intOf? .i64 (AMem.ld (((M ++ [AObj.cells [.int .i64 x0_0, .int .i64 x0_1, .slice x0_2 x0_2n x0_2c] ⟨false, 0⟩]) ++ [AObj.cells [.int .i64 x1_0, .int .i64 x1_1, .slice x1_2 x1_2n x1_2c] ⟨false, 0⟩]) ++ [AObj.cells [.int .i64 x2_0, .int .i64 x2_1, .slice x2_2 x2_2n x2_2c] ⟨false, 0⟩]) (List.length M) 0)) fun x_4 =>
      (Option.bind (intOf? .i64 (AMem.ld (((M ++ [AObj.cells [.int .i64 x0_0, .int .i64 x0_1, .slice x0_2 x0_2n x0_2c] ⟨false, 0⟩]) ++ [AObj.cells [.int .i64 x1_0, .int .i64 x1_1, .slice x1_2 x1_2n x1_2c] ⟨false, 0⟩]) ++ [AObj.cells [.int .i64 x2_0, .int .i64 x2_1, .slice x2_2 x2_2n x2_2c] ⟨false, 0⟩]) (List.length M) 1)) fun x_5 =>
      (Option.bind (sliceOf? (AMem.ld (((M ++ [AObj.cells [.int .i64 x0_0, .int .i64 x0_1, .slice x0_2 x0_2n x0_2c] ⟨false, 0⟩]) ++ [AObj.cells [.int .i64 x1_0, .int .i64 x1_1, .slice x1_2 x1_2n x1_2c] ⟨false, 0⟩]) ++ [AObj.cells [.int .i64 x2_0, .int .i64 x2_1, .slice x2_2 x2_2n x2_2c] ⟨false, 0⟩]) (List.length M) 2)) fun s_6 =>
      (Option.bind (intOf? .i64 (AMem.ld (((M ++ [AObj.cells [.int .i64 x0_0, .int .i64 x0_1, .slice x0_2 x0_2n x0_2c] ⟨false, 0⟩]) ++ [AObj.cells [.int .i64 x1_0, .int .i64 x1_1, .slice x1_2 x1_2n x1_2c] ⟨false, 0⟩]) ++ [AObj.cells [.int .i64 x2_0, .int .i64 x2_1, .slice x2_2 x2_2n x2_2c] ⟨false, 0⟩]) (List.length (M ++ [AObj.cells [.int .i64 x0_0, .int .i64 x0_1, .slice x0_2 x0_2n x0_2c] ⟨false, 0⟩])) 0)) fun x_7 =>
      (Option.bind (intOf? .i64 (AMem.ld (((M ++ [AObj.cells [.int .i64 x0_0, .int .i64 x0_1, .slice x0_2 x0_2n x0_2c] ⟨false, 0⟩]) ++ [AObj.cells [.int .i64 x1_0, .int .i64 x1_1, .slice x1_2 x1_2n x1_2c] ⟨false, 0⟩]) ++ [AObj.cells [.int .i64 x2_0, .int .i64 x2_1, .slice x2_2 x2_2n x2_2c] ⟨false, 0⟩]) (List.length (M ++ [AObj.cells [.int .i64 x0_0, .int .i64 x0_1, .slice x0_2 x0_2n x0_2c] ⟨false, 0⟩])) 1)) fun x_8 =>
      (Option.bind (sliceOf? (AMem.ld (((M ++ [AObj.cells [.int .i64 x0_0, .int .i64 x0_1, .slice x0_2 x0_2n x0_2c] ⟨false, 0⟩]) ++ [AObj.cells [.int .i64 x1_0, .int .i64 x1_1, .slice x1_2 x1_2n x1_2c] ⟨false, 0⟩]) ++ [AObj.cells [.int .i64 x2_0, .int .i64 x2_1, .slice x2_2 x2_2n x2_2c] ⟨false, 0⟩]) (List.length (M ++ [AObj.cells [.int .i64 x0_0, .int .i64 x0_1, .slice x0_2 x0_2n x0_2c] ⟨false, 0⟩])) 2)) fun s_9 =>
      (Option.bind (L.call 19 [.agg #[.int .i64 x_4, .int .i64 x_5, .slice s_6.1 s_6.2.1 s_6.2.2], .agg #[.int .i64 x_7, .int .i64 x_8, .slice s_9.1 s_9.2.1 s_9.2.2]] (((M ++ [AObj.cells [.int .i64 x0_0, .int .i64 x0_1, .slice x0_2 x0_2n x0_2c] ⟨false, 0⟩]) ++ [AObj.cells [.int .i64 x1_0, .int .i64 x1_1, .slice x1_2 x1_2n x1_2c] ⟨false, 0⟩]) ++ [AObj.cells [.int .i64 x2_0, .int .i64 x2_1, .slice x2_2 x2_2n x2_2c] ⟨false, 0⟩])) fun r_10 =>
      (Option.bind (boolOf? (some r_10.1)) fun q_11 =>
      (if (!q_11) = true
      then (Option.bind (L.call 5 [] []) fun r_12 =>
        (Option.bind (boolOf? (some r_12.1)) fun q_13 =>
        some (.bool q_13, r_10.2)))
      else (Option.bind (intOf? .i64 (AMem.ld r_10.2 (List.length (M ++ [AObj.cells [.int .i64 x0_0, .int .i64 x0_1, .slice x0_2 x0_2n x0_2c] ⟨false, 0⟩])) 0)) fun x_14 =>
        (Option.bind (intOf? .i64 (AMem.ld r_10.2 (List.length (M ++ [AObj.cells [.int .i64 x0_0, .int .i64 x0_1, .slice x0_2 x0_2n x0_2c] ⟨false, 0⟩])) 1)) fun x_15 =>
        (Option.bind (sliceOf? (AMem.ld r_10.2 (List.length (M ++ [AObj.cells [.int .i64 x0_0, .int .i64 x0_1, .slice x0_2 x0_2n x0_2c] ⟨false, 0⟩])) 2)) fun s_16 =>
        (Option.bind (intOf? .i64 (AMem.ld r_10.2 (List.length ((M ++ [AObj.cells [.int .i64 x0_0, .int .i64 x0_1, .slice x0_2 x0_2n x0_2c] ⟨false, 0⟩]) ++ [AObj.cells [.int .i64 x1_0, .int .i64 x1_1, .slice x1_2 x1_2n x1_2c] ⟨false, 0⟩])) 0)) fun x_17 =>
        (Option.bind (intOf? .i64 (AMem.ld r_10.2 (List.length ((M ++ [AObj.cells [.int .i64 x0_0, .int .i64 x0_1, .slice x0_2 x0_2n x0_2c] ⟨false, 0⟩]) ++ [AObj.cells [.int .i64 x1_0, .int .i64 x1_1, .slice x1_2 x1_2n x1_2c] ⟨false, 0⟩])) 1)) fun x_18 =>
        (Option.bind (sliceOf? (AMem.ld r_10.2 (List.length ((M ++ [AObj.cells [.int .i64 x0_0, .int .i64 x0_1, .slice x0_2 x0_2n x0_2c] ⟨false, 0⟩]) ++ [AObj.cells [.int .i64 x1_0, .int .i64 x1_1, .slice x1_2 x1_2n x1_2c] ⟨false, 0⟩])) 2)) fun s_19 =>
        (Option.bind (L.call 19 [.agg #[.int .i64 x_14, .int .i64 x_15, .slice s_16.1 s_16.2.1 s_16.2.2], .agg #[.int .i64 x_17, .int .i64 x_18, .slice s_19.1 s_19.2.1 s_19.2.2]] r_10.2) fun r_20 =>
        (Option.bind (boolOf? (some r_20.1)) fun q_21 =>
        (if (!q_21) = true
        then (Option.bind (L.call 5 [] []) fun r_22 =>
          (Option.bind (boolOf? (some r_22.1)) fun q_23 =>
          some (.bool q_23, r_20.2)))
        else (Option.bind (intOf? .i64 (AMem.ld (r_20.2 ++ [AObj.cells [.int .i64 0, .int .i64 0, .int .i64 0, .int .i64 0] ⟨false, 0⟩]) (List.length M) 0)) fun x_24 =>
          (Option.bind (intOf? .i64 (AMem.ld (r_20.2 ++ [AObj.cells [.int .i64 0, .int .i64 0, .int .i64 0, .int .i64 0] ⟨false, 0⟩]) (List.length M) 1)) fun x_25 =>
          (Option.bind (sliceOf? (AMem.ld (r_20.2 ++ [AObj.cells [.int .i64 0, .int .i64 0, .int .i64 0, .int .i64 0] ⟨false, 0⟩]) (List.length M) 2)) fun s_26 =>
          (Option.bind (L.call 7 [.agg #[.int .i64 x_24, .int .i64 x_25, .slice s_26.1 s_26.2.1 s_26.2.2]] (r_20.2 ++ [AObj.cells [.int .i64 0, .int .i64 0, .int .i64 0, .int .i64 0] ⟨false, 0⟩])) fun r_27 =>
          (Option.bind (aggOf? 3 r_27.1) fun cs_28 =>
          (Option.bind (intOf? .i64 (cs_28[0]?)) fun x_29 =>
          (Option.bind (intOf? .i64 (cs_28[1]?)) fun x_30 =>
          (Option.bind (sliceOf? (cs_28[2]?)) fun s_31 =>
          (Option.bind (intOf? .i64 (AMem.ld r_27.2 (List.length (M ++ [AObj.cells [.int .i64 x0_0, .int .i64 x0_1, .slice x0_2 x0_2n x0_2c] ⟨false, 0⟩])) 0)) fun x_32 =>
          (Option.bind (intOf? .i64 (AMem.ld r_27.2 (List.length (M ++ [AObj.cells [.int .i64 x0_0, .int .i64 x0_1, .slice x0_2 x0_2n x0_2c] ⟨false, 0⟩])) 1)) fun x_33 =>
          (Option.bind (sliceOf? (AMem.ld r_27.2 (List.length (M ++ [AObj.cells [.int .i64 x0_0, .int .i64 x0_1, .slice x0_2 x0_2n x0_2c] ⟨false, 0⟩])) 2)) fun s_34 =>
          (Option.bind (L.call 7 [.agg #[.int .i64 x_32, .int .i64 x_33, .slice s_34.1 s_34.2.1 s_34.2.2]] r_27.2) fun r_35 =>
          (Option.bind (aggOf? 3 r_35.1) fun cs_36 =>
          (Option.bind (intOf? .i64 (cs_36[0]?)) fun x_37 =>
          (Option.bind (intOf? .i64 (cs_36[1]?)) fun x_38 =>
          (Option.bind (sliceOf? (cs_36[2]?)) fun s_39 =>
          (Option.bind (L.call 6 [.agg #[.int .i64 x_29, .int .i64 x_30, .slice s_31.1 s_31.2.1 s_31.2.2], .agg #[.int .i64 x_37, .int .i64 x_38, .slice s_39.1 s_39.2.1 s_39.2.2]] r_35.2) fun r_40 =>
          (Option.bind (tupOf? 2 r_40.1) fun cs_41 =>
          (Option.bind (cs_41[0]?) fun u_42 =>
          (Option.bind (aggOf? 4 u_42) fun cs_43 =>
          (Option.bind (intOf? .i64 (cs_43[0]?)) fun x_44 =>
          (Option.bind (intOf? .i64 (cs_43[1]?)) fun x_45 =>
          (Option.bind (intOf? .i64 (cs_43[2]?)) fun x_46 =>
          (Option.bind (intOf? .i64 (cs_43[3]?)) fun x_47 =>
          (Option.bind (cs_41[1]?) fun u_48 =>
          (Option.bind (boolOf? (some u_48)) fun q_49 =>
          (Option.bind (AMem.wr r_40.2 (List.length r_20.2) 0 [.int .i64 x_44, .int .i64 x_45, .int .i64 x_46, .int .i64 x_47]) fun M_50 =>
          (if chkOk [(2, 1), (8, 1), (8, 3), (8, 4)] [(8, (List.length r_20.2)), (2, (List.length (M ++ [AObj.cells [.int .i64 x0_0, .int .i64 x0_1, .slice x0_2 x0_2n x0_2c] ⟨false, 0⟩])))] [(4, (r_35.2, r_40.2)), (3, (r_27.2, r_35.2)), (1, ((r_20.2 ++ [AObj.cells [.int .i64 0, .int .i64 0, .int .i64 0, .int .i64 0] ⟨false, 0⟩]), r_27.2))] = true
          then P4_12 L x3 (List.length M) (List.length (M ++ [AObj.cells [.int .i64 x0_0, .int .i64 x0_1, .slice x0_2 x0_2n x0_2c] ⟨false, 0⟩])) (List.length ((M ++ [AObj.cells [.int .i64 x0_0, .int .i64 x0_1, .slice x0_2 x0_2n x0_2c] ⟨false, 0⟩]) ++ [AObj.cells [.int .i64 x1_0, .int .i64 x1_1, .slice x1_2 x1_2n x1_2c] ⟨false, 0⟩])) (List.length r_20.2) q_49 M_50
          else none)))))))))))))))))))))))))))))))))))))))))))))))) := by
  subst hP4_12; kernel_rfl
theorem E4 (L : Rec) (x0_0 : Int) (x0_1 : Int) (x0_2 : Option Addr) (x0_2n : Nat) (x0_2c : Nat) (x1_0 : Int) (x1_1 : Int) (x1_2 : Option Addr) (x1_2n : Nat) (x1_2c : Nat) (x2_0 : Int) (x2_1 : Int) (x2_2 : Option Addr) (x2_2n : Nat) (x2_2c : Nat) (x3 : Int) (M : AMem) : enterF L a4 [.agg #[.int .i64 x0_0, .int .i64 x0_1, .slice x0_2 x0_2n x0_2c], .agg #[.int .i64 x1_0, .int .i64 x1_1, .slice x1_2 x1_2n x1_2c], .agg #[.int .i64 x2_0, .int .i64 x2_1, .slice x2_2 x2_2n x2_2c], .int .u16 x3] M =
  (Option.bind (sliceOf? (AMem.ld (((M ++ [AObj.cells [.int .i64 x0_0, .int .i64 x0_1, .slice x0_2 x0_2n x0_2c] ⟨false, 0⟩]) ++ [AObj.cells [.int .i64 x1_0, .int .i64 x1_1, .slice x1_2 x1_2n x1_2c] ⟨false, 0⟩]) ++ [AObj.cells [.int .i64 x2_0, .int .i64 x2_1, .slice x2_2 x2_2n x2_2c] ⟨false, 0⟩]) (List.length M) 2)) fun s_1 =>
    (if (decide ((Int.ofNat s_1.2.1) > 30)) = true
    then (Option.bind (L.call 5 [] []) fun r_2 =>
      (Option.bind (boolOf? (some r_2.1)) fun q_3 =>
      some (.bool q_3, (((M ++ [AObj.cells [.int .i64 x0_0, .int .i64 x0_1, .slice x0_2 x0_2n x0_2c] ⟨false, 0⟩]) ++ [AObj.cells [.int .i64 x1_0, .int .i64 x1_1, .slice x1_2 x1_2n x1_2c] ⟨false, 0⟩]) ++ [AObj.cells [.int .i64 x2_0, .int .i64 x2_1, .slice x2_2 x2_2n x2_2c] ⟨false, 0⟩]))))
    else (Option.bind (intOf? .i64 (AMem.ld (((M ++ [AObj.cells [.int .i64 x0_0, .int .i64 x0_1, .slice x0_2 x0_2n x0_2c] ⟨false, 0⟩]) ++ [AObj.cells [.int .i64 x1_0, .int .i64 x1_1, .slice x1_2 x1_2n x1_2c] ⟨false, 0⟩]) ++ [AObj.cells [.int .i64 x2_0, .int .i64 x2_1, .slice x2_2 x2_2n x2_2c] ⟨false, 0⟩]) (List.length M) 0)) fun x_4 =>
      (Option.bind (intOf? .i64 (AMem.ld (((M ++ [AObj.cells [.int .i64 x0_0, .int .i64 x0_1, .slice x0_2 x0_2n x0_2c] ⟨false, 0⟩]) ++ [AObj.cells [.int .i64 x1_0, .int .i64 x1_1, .slice x1_2 x1_2n x1_2c] ⟨false, 0⟩]) ++ [AObj.cells [.int .i64 x2_0, .int .i64 x2_1, .slice x2_2 x2_2n x2_2c] ⟨false, 0⟩]) (List.length M) 1)) fun x_5 =>
      (Option.bind (sliceOf? (AMem.ld (((M ++ [AObj.cells [.int .i64 x0_0, .int .i64 x0_1, .slice x0_2 x0_2n x0_2c] ⟨false, 0⟩]) ++ [AObj.cells [.int .i64 x1_0, .int .i64 x1_1, .slice x1_2 x1_2n x1_2c] ⟨false, 0⟩]) ++ [AObj.cells [.int .i64 x2_0, .int .i64 x2_1, .slice x2_2 x2_2n x2_2c] ⟨false, 0⟩]) (List.length M) 2)) fun s_6 =>
      (Option.bind (intOf? .i64 (AMem.ld (((M ++ [AObj.cells [.int .i64 x0_0, .int .i64 x0_1, .slice x0_2 x0_2n x0_2c] ⟨false, 0⟩]) ++ [AObj.cells [.int .i64 x1_0, .int .i64 x1_1, .slice x1_2 x1_2n x1_2c] ⟨false, 0⟩]) ++ [AObj.cells [.int .i64 x2_0, .int .i64 x2_1, .slice x2_2 x2_2n x2_2c] ⟨false, 0⟩]) (List.length (M ++ [AObj.cells [.int .i64 x0_0, .int .i64 x0_1, .slice x0_2 x0_2n x0_2c] ⟨false, 0⟩])) 0)) fun x_7 =>
      (Option.bind (intOf? .i64 (AMem.ld (((M ++ [AObj.cells [.int .i64 x0_0, .int .i64 x0_1, .slice x0_2 x0_2n x0_2c] ⟨false, 0⟩]) ++ [AObj.cells [.int .i64 x1_0, .int .i64 x1_1, .slice x1_2 x1_2n x1_2c] ⟨false, 0⟩]) ++ [AObj.cells [.int .i64 x2_0, .int .i64 x2_1, .slice x2_2 x2_2n x2_2c] ⟨false, 0⟩]) (List.length (M ++ [AObj.cells [.int .i64 x0_0, .int .i64 x0_1, .slice x0_2 x0_2n x0_2c] ⟨false, 0⟩])) 1)) fun x_8 =>
      (Option.bind (sliceOf? (AMem.ld (((M ++ [AObj.cells [.int .i64 x0_0, .int .i64 x0_1, .slice x0_2 x0_2n x0_2c] ⟨false, 0⟩]) ++ [AObj.cells [.int .i64 x1_0, .int .i64 x1_1, .slice x1_2 x1_2n x1_2c] ⟨false, 0⟩]) ++ [AObj.cells [.int .i64 x2_0, .int .i64 x2_1, .slice x2_2 x2_2n x2_2c] ⟨false, 0⟩]) (List.length (M ++ [AObj.cells [.int .i64 x0_0, .int .i64 x0_1, .slice x0_2 x0_2n x0_2c] ⟨false, 0⟩])) 2)) fun s_9 =>
      (Option.bind (L.call 19 [.agg #[.int .i64 x_4, .int .i64 x_5, .slice s_6.1 s_6.2.1 s_6.2.2], .agg #[.int .i64 x_7, .int .i64 x_8, .slice s_9.1 s_9.2.1 s_9.2.2]] (((M ++ [AObj.cells [.int .i64 x0_0, .int .i64 x0_1, .slice x0_2 x0_2n x0_2c] ⟨false, 0⟩]) ++ [AObj.cells [.int .i64 x1_0, .int .i64 x1_1, .slice x1_2 x1_2n x1_2c] ⟨false, 0⟩]) ++ [AObj.cells [.int .i64 x2_0, .int .i64 x2_1, .slice x2_2 x2_2n x2_2c] ⟨false, 0⟩])) fun r_10 =>
      (Option.bind (boolOf? (some r_10.1)) fun q_11 =>
      (if (!q_11) = true
      then (Option.bind (L.call 5 [] []) fun r_12 =>
        (Option.bind (boolOf? (some r_12.1)) fun q_13 =>
        some (.bool q_13, r_10.2)))
      else (Option.bind (intOf? .i64 (AMem.ld r_10.2 (List.length (M ++ [AObj.cells [.int .i64 x0_0, .int .i64 x0_1, .slice x0_2 x0_2n x0_2c] ⟨false, 0⟩])) 0)) fun x_14 =>
        (Option.bind (intOf? .i64 (AMem.ld r_10.2 (List.length (M ++ [AObj.cells [.int .i64 x0_0, .int .i64 x0_1, .slice x0_2 x0_2n x0_2c] ⟨false, 0⟩])) 1)) fun x_15 =>
        (Option.bind (sliceOf? (AMem.ld r_10.2 (List.length (M ++ [AObj.cells [.int .i64 x0_0, .int .i64 x0_1, .slice x0_2 x0_2n x0_2c] ⟨false, 0⟩])) 2)) fun s_16 =>
        (Option.bind (intOf? .i64 (AMem.ld r_10.2 (List.length ((M ++ [AObj.cells [.int .i64 x0_0, .int .i64 x0_1, .slice x0_2 x0_2n x0_2c] ⟨false, 0⟩]) ++ [AObj.cells [.int .i64 x1_0, .int .i64 x1_1, .slice x1_2 x1_2n x1_2c] ⟨false, 0⟩])) 0)) fun x_17 =>
        (Option.bind (intOf? .i64 (AMem.ld r_10.2 (List.length ((M ++ [AObj.cells [.int .i64 x0_0, .int .i64 x0_1, .slice x0_2 x0_2n x0_2c] ⟨false, 0⟩]) ++ [AObj.cells [.int .i64 x1_0, .int .i64 x1_1, .slice x1_2 x1_2n x1_2c] ⟨false, 0⟩])) 1)) fun x_18 =>
        (Option.bind (sliceOf? (AMem.ld r_10.2 (List.length ((M ++ [AObj.cells [.int .i64 x0_0, .int .i64 x0_1, .slice x0_2 x0_2n x0_2c] ⟨false, 0⟩]) ++ [AObj.cells [.int .i64 x1_0, .int .i64 x1_1, .slice x1_2 x1_2n x1_2c] ⟨false, 0⟩])) 2)) fun s_19 =>
        (Option.bind (L.call 19 [.agg #[.int .i64 x_14, .int .i64 x_15, .slice s_16.1 s_16.2.1 s_16.2.2], .agg #[.int .i64 x_17, .int .i64 x_18, .slice s_19.1 s_19.2.1 s_19.2.2]] r_10.2) fun r_20 =>
        (Option.bind (boolOf? (some r_20.1)) fun q_21 =>
        (if (!q_21) = true
        then (Option.bind (L.call 5 [] []) fun r_22 =>
          (Option.bind (boolOf? (some r_22.1)) fun q_23 =>
          some (.bool q_23, r_20.2)))
        else (Option.bind (intOf? .i64 (AMem.ld (r_20.2 ++ [AObj.cells [.int .i64 0, .int .i64 0, .int .i64 0, .int .i64 0] ⟨false, 0⟩]) (List.length M) 0)) fun x_24 =>
          (Option.bind (intOf? .i64 (AMem.ld (r_20.2 ++ [AObj.cells [.int .i64 0, .int .i64 0, .int .i64 0, .int .i64 0] ⟨false, 0⟩]) (List.length M) 1)) fun x_25 =>
          (Option.bind (sliceOf? (AMem.ld (r_20.2 ++ [AObj.cells [.int .i64 0, .int .i64 0, .int .i64 0, .int .i64 0] ⟨false, 0⟩]) (List.length M) 2)) fun s_26 =>
          (Option.bind (L.call 7 [.agg #[.int .i64 x_24, .int .i64 x_25, .slice s_26.1 s_26.2.1 s_26.2.2]] (r_20.2 ++ [AObj.cells [.int .i64 0, .int .i64 0, .int .i64 0, .int .i64 0] ⟨false, 0⟩])) fun r_27 =>
          (Option.bind (aggOf? 3 r_27.1) fun cs_28 =>
          (Option.bind (intOf? .i64 (cs_28[0]?)) fun x_29 =>
          (Option.bind (intOf? .i64 (cs_28[1]?)) fun x_30 =>
          (Option.bind (sliceOf? (cs_28[2]?)) fun s_31 =>
          (Option.bind (intOf? .i64 (AMem.ld r_27.2 (List.length (M ++ [AObj.cells [.int .i64 x0_0, .int .i64 x0_1, .slice x0_2 x0_2n x0_2c] ⟨false, 0⟩])) 0)) fun x_32 =>
          (Option.bind (intOf? .i64 (AMem.ld r_27.2 (List.length (M ++ [AObj.cells [.int .i64 x0_0, .int .i64 x0_1, .slice x0_2 x0_2n x0_2c] ⟨false, 0⟩])) 1)) fun x_33 =>
          (Option.bind (sliceOf? (AMem.ld r_27.2 (List.length (M ++ [AObj.cells [.int .i64 x0_0, .int .i64 x0_1, .slice x0_2 x0_2n x0_2c] ⟨false, 0⟩])) 2)) fun s_34 =>
          (Option.bind (L.call 7 [.agg #[.int .i64 x_32, .int .i64 x_33, .slice s_34.1 s_34.2.1 s_34.2.2]] r_27.2) fun r_35 =>
          (Option.bind (aggOf? 3 r_35.1) fun cs_36 =>
          (Option.bind (intOf? .i64 (cs_36[0]?)) fun x_37 =>
          (Option.bind (intOf? .i64 (cs_36[1]?)) fun x_38 =>
          (Option.bind (sliceOf? (cs_36[2]?)) fun s_39 =>
          (Option.bind (L.call 6 [.agg #[.int .i64 x_29, .int .i64 x_30, .slice s_31.1 s_31.2.1 s_31.2.2], .agg #[.int .i64 x_37, .int .i64 x_38, .slice s_39.1 s_39.2.1 s_39.2.2]] r_35.2) fun r_40 =>
          (Option.bind (tupOf? 2 r_40.1) fun cs_41 =>
          (Option.bind (cs_41[0]?) fun u_42 =>
          (Option.bind (aggOf? 4 u_42) fun cs_43 =>
          (Option.bind (intOf? .i64 (cs_43[0]?)) fun x_44 =>
          (Option.bind (intOf? .i64 (cs_43[1]?)) fun x_45 =>
          (Option.bind (intOf? .i64 (cs_43[2]?)) fun x_46 =>
          (Option.bind (intOf? .i64 (cs_43[3]?)) fun x_47 =>
          (Option.bind (cs_41[1]?) fun u_48 =>
          (Option.bind (boolOf? (some u_48)) fun q_49 =>
          (Option.bind (AMem.wr r_40.2 (List.length r_20.2) 0 [.int .i64 x_44, .int .i64 x_45, .int .i64 x_46, .int .i64 x_47]) fun M_50 =>
          (if chkOk [(2, 1), (8, 1), (8, 3), (8, 4)] [(8, (List.length r_20.2)), (2, (List.length (M ++ [AObj.cells [.int .i64 x0_0, .int .i64 x0_1, .slice x0_2 x0_2n x0_2c] ⟨false, 0⟩])))] [(4, (r_35.2, r_40.2)), (3, (r_27.2, r_35.2)), (1, ((r_20.2 ++ [AObj.cells [.int .i64 0, .int .i64 0, .int .i64 0, .int .i64 0] ⟨false, 0⟩]), r_27.2))] = true
          then P4_12 L x3 (List.length M) (List.length (M ++ [AObj.cells [.int .i64 x0_0, .int .i64 x0_1, .slice x0_2 x0_2n x0_2c] ⟨false, 0⟩])) (List.length ((M ++ [AObj.cells [.int .i64 x0_0, .int .i64 x0_1, .slice x0_2 x0_2n x0_2c] ⟨false, 0⟩]) ++ [AObj.cells [.int .i64 x1_0, .int .i64 x1_1, .slice x1_2 x1_2n x1_2c] ⟨false, 0⟩])) (List.length r_20.2) q_49 M_50
          else none)))))))))))))))))))))))))))))))))))))))))))))))) := QE4 L c4_12 P4_12 (Classical.choose_spec XP4_12) x0_0 x0_1 x0_2 x0_2n x0_2c x1_0 x1_1 x1_2 x1_2n x1_2c x2_0 x2_1 x2_2 x2_2n x2_2c x3 M
end Go.Proofs.Ytkjgmcjdblhkeaa
