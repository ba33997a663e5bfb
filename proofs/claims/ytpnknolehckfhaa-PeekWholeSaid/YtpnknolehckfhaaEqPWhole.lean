/- What the pieces of some functions come to. -/
import Derived.Test.YtpnknolehckfhaaCode
set_option linter.unusedVariables false
set_option maxRecDepth 100000
namespace Go.Proofs.Ytpnknolehckfhaa
open Go Go.Ax
/-! #### skylightlaw34.PeekWhole -/
noncomputable def k3_14 (L : Rec) : KT := retK [.tmp 8]
def s3_14 (x1 : Int) (x2 : Option Addr) (x2n : Nat) (x2c : Nat) (x3 : Option Addr) (x3n : Nat) (x3c : Nat) (x4 : Nat) (x9 : Option Addr) (x10 : Option Addr) (M : AMem) : List Value := [junk, .int .u8 x1, .slice x2 x2n x2c, .slice x3 x3n x3c, .pointer (some ⟨x4, 0, none⟩), junk, junk, junk, junk, .pointer x9, .pointer x10, junk, junk, junk, junk, junk, junk, junk, junk, junk, junk, junk, junk, junk, junk, junk, junk, junk, junk, junk, junk, junk, junk, junk, junk, junk, junk, junk, junk, junk, junk, junk, junk, junk, junk, junk, junk, junk, junk, junk, junk, junk, junk, junk, junk, junk, junk, junk, junk, junk, junk, junk, junk, junk, junk, junk, junk, junk, junk, junk, junk, junk, junk, junk, junk, junk, junk, junk, junk, junk, junk, junk, junk, junk, junk, junk, junk, junk, junk, junk, junk, junk, junk, junk, junk, junk, junk, junk, junk, junk, junk, junk, junk, junk, junk, junk, junk, junk, junk, junk, junk, junk, junk, junk, junk, junk, junk, junk, junk, junk, junk, junk, junk, junk, junk, junk, junk, junk, junk, junk, junk, junk, junk, junk, junk, junk, junk, junk, junk, junk, junk, junk, junk, junk, junk, junk, junk, junk, junk, junk, junk, junk, junk, junk, junk, junk, junk, junk, junk, junk, junk, junk, junk, junk, junk, junk, junk, junk, junk, junk, junk, junk, junk, junk, junk, junk, junk, junk, junk, junk, junk, junk, junk, junk, junk, junk, junk]
theorem XP3_14 : ∃ P : Rec → Int → (Option Addr) → Nat → Nat → (Option Addr) → Nat → Nat → Nat → (Option Addr) → (Option Addr) → AMem → Res, P = fun (L : Rec) (x1 : Int) (x2 : Option Addr) (x2n : Nat) (x2c : Nat) (x3 : Option Addr) (x3n : Nat) (x3c : Nat) (x4 : Nat) (x9 : Option Addr) (x10 : Option Addr) (M : AMem) => code L c3_14 (k3_14 L) (s3_14 x1 x2 x2n x2c x3 x3n x3c x4 x9 x10 M) M := ⟨_, rfl⟩
noncomputable def P3_14 : Rec → Int → (Option Addr) → Nat → Nat → (Option Addr) → Nat → Nat → Nat → (Option Addr) → (Option Addr) → AMem → Res := Classical.choose XP3_14
noncomputable def k3_22 (L : Rec) : KT := blockK 0 (seqK (code L (.clear zl5 c3_41) (retK [.tmp 8])) (retK [.tmp 8]))
def s3_22 (x1 : Int) (x2 : Option Addr) (x2n : Nat) (x2c : Nat) (x3 : Option Addr) (x3n : Nat) (x3c : Nat) (x4 : Nat) (x9 : Option Addr) (x10 : Option Addr) (x11 : Option Addr) (x11n : Nat) (x11c : Nat) (x12 : Option Addr) (x12n : Nat) (x12c : Nat) (x13 : Int) (M : AMem) : List Value := [junk, .int .u8 x1, .slice x2 x2n x2c, .slice x3 x3n x3c, .pointer (some ⟨x4, 0, none⟩), junk, junk, junk, junk, .pointer x9, .pointer x10, .slice x11 x11n x11c, .slice x12 x12n x12c, .int .i64 x13, junk, junk, junk, junk, junk, junk, junk, junk, junk, junk, junk, junk, junk, junk, junk, junk, junk, junk, junk, junk, junk, junk, junk, junk, junk, junk, junk, junk, junk, junk, junk, junk, junk, junk, junk, junk, junk, junk, junk, junk, junk, junk, junk, junk, junk, junk, junk, junk, junk, junk, junk, junk, junk, junk, junk, junk, junk, junk, junk, junk, junk, junk, junk, junk, junk, junk, junk, junk, junk, junk, junk, junk, junk, junk, junk, junk, junk, junk, junk, junk, junk, junk, junk, junk, junk, junk, junk, junk, junk, junk, junk, junk, junk, junk, junk, junk, junk, junk, junk, junk, junk, junk, junk, junk, junk, junk, junk, junk, junk, junk, junk, junk, junk, junk, junk, junk, junk, junk, junk, junk, junk, junk, junk, junk, junk, junk, junk, junk, junk, junk, junk, junk, junk, junk, junk, junk, junk, junk, junk, junk, junk, junk, junk, junk, junk, junk, junk, junk, junk, junk, junk, junk, junk, junk, junk, junk, junk, junk, junk, junk, junk, junk, junk, junk, junk, junk, junk, junk, junk, junk, junk, junk, junk]
theorem XP3_22 : ∃ P : Rec → Int → (Option Addr) → Nat → Nat → (Option Addr) → Nat → Nat → Nat → (Option Addr) → (Option Addr) → (Option Addr) → Nat → Nat → (Option Addr) → Nat → Nat → Int → AMem → Res, P = fun (L : Rec) (x1 : Int) (x2 : Option Addr) (x2n : Nat) (x2c : Nat) (x3 : Option Addr) (x3n : Nat) (x3c : Nat) (x4 : Nat) (x9 : Option Addr) (x10 : Option Addr) (x11 : Option Addr) (x11n : Nat) (x11c : Nat) (x12 : Option Addr) (x12n : Nat) (x12c : Nat) (x13 : Int) (M : AMem) => L.loop b3_22 (k3_22 L) (s3_22 x1 x2 x2n x2c x3 x3n x3c x4 x9 x10 x11 x11n x11c x12 x12n x12c x13 M) M := ⟨_, rfl⟩
noncomputable def P3_22 : Rec → Int → (Option Addr) → Nat → Nat → (Option Addr) → Nat → Nat → Nat → (Option Addr) → (Option Addr) → (Option Addr) → Nat → Nat → (Option Addr) → Nat → Nat → Int → AMem → Res := Classical.choose XP3_22
noncomputable def k3_40 (L : Rec) : KT := postK zl0 (loopK L b3_22 (blockK 0 (seqK (code L (.clear zl5 c3_41) (retK [.tmp 8])) (retK [.tmp 8]))))
def s3_40 (x1 : Int) (x2 : Option Addr) (x2n : Nat) (x2c : Nat) (x3 : Option Addr) (x3n : Nat) (x3c : Nat) (x4 : Nat) (x9 : Option Addr) (x10 : Option Addr) (x11 : Option Addr) (x11n : Nat) (x11c : Nat) (x12 : Option Addr) (x12n : Nat) (x12c : Nat) (x13 : Int) (M : AMem) : List Value := [junk, .int .u8 x1, .slice x2 x2n x2c, .slice x3 x3n x3c, .pointer (some ⟨x4, 0, none⟩), junk, junk, junk, junk, .pointer x9, .pointer x10, .slice x11 x11n x11c, .slice x12 x12n x12c, .int .i64 x13, junk, junk, junk, junk, junk, junk, junk, junk, junk, junk, junk, junk, junk, junk, junk, junk, junk, junk, junk, junk, junk, junk, junk, junk, junk, junk, junk, junk, junk, junk, junk, junk, junk, junk, junk, junk, junk, junk, junk, junk, junk, junk, junk, junk, junk, junk, junk, junk, junk, junk, junk, junk, junk, junk, junk, junk, junk, junk, junk, junk, junk, junk, junk, junk, junk, junk, junk, junk, junk, junk, junk, junk, junk, junk, junk, junk, junk, junk, junk, junk, junk, junk, junk, junk, junk, junk, junk, junk, junk, junk, junk, junk, junk, junk, junk, junk, junk, junk, junk, junk, junk, junk, junk, junk, junk, junk, junk, junk, junk, junk, junk, junk, junk, junk, junk, junk, junk, junk, junk, junk, junk, junk, junk, junk, junk, junk, junk, junk, junk, junk, junk, junk, junk, junk, junk, junk, junk, junk, junk, junk, junk, junk, junk, junk, junk, junk, junk, junk, junk, junk, junk, junk, junk, junk, junk, junk, junk, junk, junk, junk, junk, junk, junk, junk, junk, junk, junk, junk, junk, junk, junk, junk, junk]
theorem XP3_40 : ∃ P : Rec → Int → (Option Addr) → Nat → Nat → (Option Addr) → Nat → Nat → Nat → (Option Addr) → (Option Addr) → (Option Addr) → Nat → Nat → (Option Addr) → Nat → Nat → Int → AMem → Res, P = fun (L : Rec) (x1 : Int) (x2 : Option Addr) (x2n : Nat) (x2c : Nat) (x3 : Option Addr) (x3n : Nat) (x3c : Nat) (x4 : Nat) (x9 : Option Addr) (x10 : Option Addr) (x11 : Option Addr) (x11n : Nat) (x11c : Nat) (x12 : Option Addr) (x12n : Nat) (x12c : Nat) (x13 : Int) (M : AMem) => code L c3_40 (k3_40 L) (s3_40 x1 x2 x2n x2c x3 x3n x3c x4 x9 x10 x11 x11n x11c x12 x12n x12c x13 M) M := ⟨_, rfl⟩
noncomputable def P3_40 : Rec → Int → (Option Addr) → Nat → Nat → (Option Addr) → Nat → Nat → Nat → (Option Addr) → (Option Addr) → (Option Addr) → Nat → Nat → (Option Addr) → Nat → Nat → Int → AMem → Res := Classical.choose XP3_40
noncomputable def k3_41 (L : Rec) : KT := retK [.tmp 8]
def s3_41 (x1 : Int) (x2 : Option Addr) (x2n : Nat) (x2c : Nat) (x3 : Option Addr) (x3n : Nat) (x3c : Nat) (x4 : Nat) (x9 : Option Addr) (x10 : Option Addr) (x11 : Option Addr) (x11n : Nat) (x11c : Nat) (x12 : Option Addr) (x12n : Nat) (x12c : Nat) (M : AMem) : List Value := [junk, .int .u8 x1, .slice x2 x2n x2c, .slice x3 x3n x3c, .pointer (some ⟨x4, 0, none⟩), junk, junk, junk, junk, .pointer x9, .pointer x10, .slice x11 x11n x11c, .slice x12 x12n x12c, junk, junk, junk, junk, junk, junk, junk, junk, junk, junk, junk, junk, junk, junk, junk, junk, junk, junk, junk, junk, junk, junk, junk, junk, junk, junk, junk, junk, junk, junk, junk, junk, junk, junk, junk, junk, junk, junk, junk, junk, junk, junk, junk, junk, junk, junk, junk, junk, junk, junk, junk, junk, junk, junk, junk, junk, junk, junk, junk, junk, junk, junk, junk, junk, junk, junk, junk, junk, junk, junk, junk, junk, junk, junk, junk, junk, junk, junk, junk, junk, junk, junk, junk, junk, junk, junk, junk, junk, junk, junk, junk, junk, junk, junk, junk, junk, junk, junk, junk, junk, junk, junk, junk, junk, junk, junk, junk, junk, junk, junk, junk, junk, junk, junk, junk, junk, junk, junk, junk, junk, junk, junk, junk, junk, junk, junk, junk, junk, junk, junk, junk, junk, junk, junk, junk, junk, junk, junk, junk, junk, junk, junk, junk, junk, junk, junk, junk, junk, junk, junk, junk, junk, junk, junk, junk, junk, junk, junk, junk, junk, junk, junk, junk, junk, junk, junk, junk, junk, junk, junk, junk, junk, junk, junk]
theorem XP3_41 : ∃ P : Rec → Int → (Option Addr) → Nat → Nat → (Option Addr) → Nat → Nat → Nat → (Option Addr) → (Option Addr) → (Option Addr) → Nat → Nat → (Option Addr) → Nat → Nat → AMem → Res, P = fun (L : Rec) (x1 : Int) (x2 : Option Addr) (x2n : Nat) (x2c : Nat) (x3 : Option Addr) (x3n : Nat) (x3c : Nat) (x4 : Nat) (x9 : Option Addr) (x10 : Option Addr) (x11 : Option Addr) (x11n : Nat) (x11c : Nat) (x12 : Option Addr) (x12n : Nat) (x12c : Nat) (M : AMem) => code L c3_41 (k3_41 L) (s3_41 x1 x2 x2n x2c x3 x3n x3c x4 x9 x10 x11 x11n x11c x12 x12n x12c M) M := ⟨_, rfl⟩
noncomputable def P3_41 : Rec → Int → (Option Addr) → Nat → Nat → (Option Addr) → Nat → Nat → Nat → (Option Addr) → (Option Addr) → (Option Addr) → Nat → Nat → (Option Addr) → Nat → Nat → AMem → Res := Classical.choose XP3_41
noncomputable def k3_49 (L : Rec) : KT := blockK 2 (seqK (code L (.clear zl4 c3_84) (retK [.tmp 8])) (retK [.tmp 8]))
def s3_49 (x1 : Int) (x2 : Option Addr) (x2n : Nat) (x2c : Nat) (x3 : Option Addr) (x3n : Nat) (x3c : Nat) (x4 : Nat) (x9 : Option Addr) (x10 : Option Addr) (x11 : Option Addr) (x11n : Nat) (x11c : Nat) (x12 : Option Addr) (x12n : Nat) (x12c : Nat) (x15 : Int) (x17 : Bool) (x18 : Bool) (x19 : Int) (M : AMem) : List Value := [junk, .int .u8 x1, .slice x2 x2n x2c, .slice x3 x3n x3c, .pointer (some ⟨x4, 0, none⟩), junk, junk, junk, junk, .pointer x9, .pointer x10, .slice x11 x11n x11c, .slice x12 x12n x12c, junk, junk, .int .i64 x15, junk, .bool x17, .bool x18, .int .i64 x19, junk, junk, junk, junk, junk, junk, junk, junk, junk, junk, junk, junk, junk, junk, junk, junk, junk, junk, junk, junk, junk, junk, junk, junk, junk, junk, junk, junk, junk, junk, junk, junk, junk, junk, junk, junk, junk, junk, junk, junk, junk, junk, junk, junk, junk, junk, junk, junk, junk, junk, junk, junk, junk, junk, junk, junk, junk, junk, junk, junk, junk, junk, junk, junk, junk, junk, junk, junk, junk, junk, junk, junk, junk, junk, junk, junk, junk, junk, junk, junk, junk, junk, junk, junk, junk, junk, junk, junk, junk, junk, junk, junk, junk, junk, junk, junk, junk, junk, junk, junk, junk, junk, junk, junk, junk, junk, junk, junk, junk, junk, junk, junk, junk, junk, junk, junk, junk, junk, junk, junk, junk, junk, junk, junk, junk, junk, junk, junk, junk, junk, junk, junk, junk, junk, junk, junk, junk, junk, junk, junk, junk, junk, junk, junk, junk, junk, junk, junk, junk, junk, junk, junk, junk, junk, junk, junk, junk, junk, junk, junk, junk, junk, junk, junk, junk, junk, junk]
theorem XP3_49 : ∃ P : Rec → Int → (Option Addr) → Nat → Nat → (Option Addr) → Nat → Nat → Nat → (Option Addr) → (Option Addr) → (Option Addr) → Nat → Nat → (Option Addr) → Nat → Nat → Int → Bool → Bool → Int → AMem → Res, P = fun (L : Rec) (x1 : Int) (x2 : Option Addr) (x2n : Nat) (x2c : Nat) (x3 : Option Addr) (x3n : Nat) (x3c : Nat) (x4 : Nat) (x9 : Option Addr) (x10 : Option Addr) (x11 : Option Addr) (x11n : Nat) (x11c : Nat) (x12 : Option Addr) (x12n : Nat) (x12c : Nat) (x15 : Int) (x17 : Bool) (x18 : Bool) (x19 : Int) (M : AMem) => L.loop b3_49 (k3_49 L) (s3_49 x1 x2 x2n x2c x3 x3n x3c x4 x9 x10 x11 x11n x11c x12 x12n x12c x15 x17 x18 x19 M) M := ⟨_, rfl⟩
noncomputable def P3_49 : Rec → Int → (Option Addr) → Nat → Nat → (Option Addr) → Nat → Nat → Nat → (Option Addr) → (Option Addr) → (Option Addr) → Nat → Nat → (Option Addr) → Nat → Nat → Int → Bool → Bool → Int → AMem → Res := Classical.choose XP3_49
noncomputable def k3_68 (L : Rec) : KT := blockK 3 (seqK (code L (.clear zl1 c3_83) (postK zl1 (loopK L b3_49 (blockK 2 (seqK (code L (.clear zl4 c3_84) (retK [.tmp 8])) (retK [.tmp 8])))))) (postK zl1 (loopK L b3_49 (blockK 2 (seqK (code L (.clear zl4 c3_84) (retK [.tmp 8])) (retK [.tmp 8]))))))
def s3_68 (x1 : Int) (x2 : Option Addr) (x2n : Nat) (x2c : Nat) (x3 : Option Addr) (x3n : Nat) (x3c : Nat) (x4 : Nat) (x9 : Option Addr) (x10 : Option Addr) (x11 : Option Addr) (x11n : Nat) (x11c : Nat) (x12 : Option Addr) (x12n : Nat) (x12c : Nat) (x15 : Int) (x17 : Bool) (x18 : Bool) (x19 : Int) (x20 : Int) (M : AMem) : List Value := [junk, .int .u8 x1, .slice x2 x2n x2c, .slice x3 x3n x3c, .pointer (some ⟨x4, 0, none⟩), junk, junk, junk, junk, .pointer x9, .pointer x10, .slice x11 x11n x11c, .slice x12 x12n x12c, junk, junk, .int .i64 x15, junk, .bool x17, .bool x18, .int .i64 x19, .int .i64 x20, junk, junk, junk, junk, junk, junk, junk, junk, junk, junk, junk, junk, junk, junk, junk, junk, junk, junk, junk, junk, junk, junk, junk, junk, junk, junk, junk, junk, junk, junk, junk, junk, junk, junk, junk, junk, junk, junk, junk, junk, junk, junk, junk, junk, junk, junk, junk, junk, junk, junk, junk, junk, junk, junk, junk, junk, junk, junk, junk, junk, junk, junk, junk, junk, junk, junk, junk, junk, junk, junk, junk, junk, junk, junk, junk, junk, junk, junk, junk, junk, junk, junk, junk, junk, junk, junk, junk, junk, junk, junk, junk, junk, junk, junk, junk, junk, junk, junk, junk, junk, junk, junk, junk, junk, junk, junk, junk, junk, junk, junk, junk, junk, junk, junk, junk, junk, junk, junk, junk, junk, junk, junk, junk, junk, junk, junk, junk, junk, junk, junk, junk, junk, junk, junk, junk, junk, junk, junk, junk, junk, junk, junk, junk, junk, junk, junk, junk, junk, junk, junk, junk, junk, junk, junk, junk, junk, junk, junk, junk, junk, junk, junk, junk, junk, junk, junk]
theorem XP3_68 : ∃ P : Rec → Int → (Option Addr) → Nat → Nat → (Option Addr) → Nat → Nat → Nat → (Option Addr) → (Option Addr) → (Option Addr) → Nat → Nat → (Option Addr) → Nat → Nat → Int → Bool → Bool → Int → Int → AMem → Res, P = fun (L : Rec) (x1 : Int) (x2 : Option Addr) (x2n : Nat) (x2c : Nat) (x3 : Option Addr) (x3n : Nat) (x3c : Nat) (x4 : Nat) (x9 : Option Addr) (x10 : Option Addr) (x11 : Option Addr) (x11n : Nat) (x11c : Nat) (x12 : Option Addr) (x12n : Nat) (x12c : Nat) (x15 : Int) (x17 : Bool) (x18 : Bool) (x19 : Int) (x20 : Int) (M : AMem) => code L c3_68 (k3_68 L) (s3_68 x1 x2 x2n x2c x3 x3n x3c x4 x9 x10 x11 x11n x11c x12 x12n x12c x15 x17 x18 x19 x20 M) M := ⟨_, rfl⟩
noncomputable def P3_68 : Rec → Int → (Option Addr) → Nat → Nat → (Option Addr) → Nat → Nat → Nat → (Option Addr) → (Option Addr) → (Option Addr) → Nat → Nat → (Option Addr) → Nat → Nat → Int → Bool → Bool → Int → Int → AMem → Res := Classical.choose XP3_68
noncomputable def k3_84 (L : Rec) : KT := retK [.tmp 8]
def s3_84 (x1 : Int) (x2 : Option Addr) (x2n : Nat) (x2c : Nat) (x4 : Nat) (x10 : Option Addr) (x11 : Option Addr) (x11n : Nat) (x11c : Nat) (x12 : Option Addr) (x12n : Nat) (x12c : Nat) (x15 : Int) (x17 : Bool) (M : AMem) : List Value := [junk, .int .u8 x1, .slice x2 x2n x2c, junk, .pointer (some ⟨x4, 0, none⟩), junk, junk, junk, junk, junk, .pointer x10, .slice x11 x11n x11c, .slice x12 x12n x12c, junk, junk, .int .i64 x15, junk, .bool x17, junk, junk, junk, junk, junk, junk, junk, junk, junk, junk, junk, junk, junk, junk, junk, junk, junk, junk, junk, junk, junk, junk, junk, junk, junk, junk, junk, junk, junk, junk, junk, junk, junk, junk, junk, junk, junk, junk, junk, junk, junk, junk, junk, junk, junk, junk, junk, junk, junk, junk, junk, junk, junk, junk, junk, junk, junk, junk, junk, junk, junk, junk, junk, junk, junk, junk, junk, junk, junk, junk, junk, junk, junk, junk, junk, junk, junk, junk, junk, junk, junk, junk, junk, junk, junk, junk, junk, junk, junk, junk, junk, junk, junk, junk, junk, junk, junk, junk, junk, junk, junk, junk, junk, junk, junk, junk, junk, junk, junk, junk, junk, junk, junk, junk, junk, junk, junk, junk, junk, junk, junk, junk, junk, junk, junk, junk, junk, junk, junk, junk, junk, junk, junk, junk, junk, junk, junk, junk, junk, junk, junk, junk, junk, junk, junk, junk, junk, junk, junk, junk, junk, junk, junk, junk, junk, junk, junk, junk, junk, junk, junk, junk, junk, junk, junk, junk, junk, junk, junk]
theorem XP3_84 : ∃ P : Rec → Int → (Option Addr) → Nat → Nat → Nat → (Option Addr) → (Option Addr) → Nat → Nat → (Option Addr) → Nat → Nat → Int → Bool → AMem → Res, P = fun (L : Rec) (x1 : Int) (x2 : Option Addr) (x2n : Nat) (x2c : Nat) (x4 : Nat) (x10 : Option Addr) (x11 : Option Addr) (x11n : Nat) (x11c : Nat) (x12 : Option Addr) (x12n : Nat) (x12c : Nat) (x15 : Int) (x17 : Bool) (M : AMem) => code L c3_84 (k3_84 L) (s3_84 x1 x2 x2n x2c x4 x10 x11 x11n x11c x12 x12n x12c x15 x17 M) M := ⟨_, rfl⟩
noncomputable def P3_84 : Rec → Int → (Option Addr) → Nat → Nat → Nat → (Option Addr) → (Option Addr) → Nat → Nat → (Option Addr) → Nat → Nat → Int → Bool → AMem → Res := Classical.choose XP3_84
noncomputable def k3_82 (L : Rec) : KT := blockK 3 (seqK (code L (.clear zl1 c3_83) (postK zl1 (loopK L b3_49 (blockK 2 (seqK (code L (.clear zl4 c3_84) (retK [.tmp 8])) (retK [.tmp 8])))))) (postK zl1 (loopK L b3_49 (blockK 2 (seqK (code L (.clear zl4 c3_84) (retK [.tmp 8])) (retK [.tmp 8]))))))
def s3_82 (x1 : Int) (x2 : Option Addr) (x2n : Nat) (x2c : Nat) (x3 : Option Addr) (x3n : Nat) (x3c : Nat) (x4 : Nat) (x9 : Option Addr) (x10 : Option Addr) (x11 : Option Addr) (x11n : Nat) (x11c : Nat) (x12 : Option Addr) (x12n : Nat) (x12c : Nat) (x15 : Int) (x17 : Bool) (x18 : Bool) (x19 : Int) (M : AMem) : List Value := [junk, .int .u8 x1, .slice x2 x2n x2c, .slice x3 x3n x3c, .pointer (some ⟨x4, 0, none⟩), junk, junk, junk, junk, .pointer x9, .pointer x10, .slice x11 x11n x11c, .slice x12 x12n x12c, junk, junk, .int .i64 x15, junk, .bool x17, .bool x18, .int .i64 x19, junk, junk, junk, junk, junk, junk, junk, junk, junk, junk, junk, junk, junk, junk, junk, junk, junk, junk, junk, junk, junk, junk, junk, junk, junk, junk, junk, junk, junk, junk, junk, junk, junk, junk, junk, junk, junk, junk, junk, junk, junk, junk, junk, junk, junk, junk, junk, junk, junk, junk, junk, junk, junk, junk, junk, junk, junk, junk, junk, junk, junk, junk, junk, junk, junk, junk, junk, junk, junk, junk, junk, junk, junk, junk, junk, junk, junk, junk, junk, junk, junk, junk, junk, junk, junk, junk, junk, junk, junk, junk, junk, junk, junk, junk, junk, junk, junk, junk, junk, junk, junk, junk, junk, junk, junk, junk, junk, junk, junk, junk, junk, junk, junk, junk, junk, junk, junk, junk, junk, junk, junk, junk, junk, junk, junk, junk, junk, junk, junk, junk, junk, junk, junk, junk, junk, junk, junk, junk, junk, junk, junk, junk, junk, junk, junk, junk, junk, junk, junk, junk, junk, junk, junk, junk, junk, junk, junk, junk, junk, junk, junk, junk, junk, junk, junk, junk, junk]
theorem XP3_82 : ∃ P : Rec → Int → (Option Addr) → Nat → Nat → (Option Addr) → Nat → Nat → Nat → (Option Addr) → (Option Addr) → (Option Addr) → Nat → Nat → (Option Addr) → Nat → Nat → Int → Bool → Bool → Int → AMem → Res, P = fun (L : Rec) (x1 : Int) (x2 : Option Addr) (x2n : Nat) (x2c : Nat) (x3 : Option Addr) (x3n : Nat) (x3c : Nat) (x4 : Nat) (x9 : Option Addr) (x10 : Option Addr) (x11 : Option Addr) (x11n : Nat) (x11c : Nat) (x12 : Option Addr) (x12n : Nat) (x12c : Nat) (x15 : Int) (x17 : Bool) (x18 : Bool) (x19 : Int) (M : AMem) => code L c3_82 (k3_82 L) (s3_82 x1 x2 x2n x2c x3 x3n x3c x4 x9 x10 x11 x11n x11c x12 x12n x12c x15 x17 x18 x19 M) M := ⟨_, rfl⟩
noncomputable def P3_82 : Rec → Int → (Option Addr) → Nat → Nat → (Option Addr) → Nat → Nat → Nat → (Option Addr) → (Option Addr) → (Option Addr) → Nat → Nat → (Option Addr) → Nat → Nat → Int → Bool → Bool → Int → AMem → Res := Classical.choose XP3_82
noncomputable def k3_104 (L : Rec) : KT := retK [.tmp 8]
def s3_104 (x2 : Option Addr) (x2n : Nat) (x2c : Nat) (x4 : Nat) (x15 : Int) (x16 : Int) (x17 : Bool) (x21 : Option Addr) (x21n : Nat) (x21c : Nat) (x22 : Int) (M : AMem) : List Value := [junk, junk, .slice x2 x2n x2c, junk, .pointer (some ⟨x4, 0, none⟩), junk, junk, junk, junk, junk, junk, junk, junk, junk, junk, .int .i64 x15, .int .i64 x16, .bool x17, junk, junk, junk, .slice x21 x21n x21c, .int .i64 x22, junk, junk, junk, junk, junk, junk, junk, junk, junk, junk, junk, junk, junk, junk, junk, junk, junk, junk, junk, junk, junk, junk, junk, junk, junk, junk, junk, junk, junk, junk, junk, junk, junk, junk, junk, junk, junk, junk, junk, junk, junk, junk, junk, junk, junk, junk, junk, junk, junk, junk, junk, junk, junk, junk, junk, junk, junk, junk, junk, junk, junk, junk, junk, junk, junk, junk, junk, junk, junk, junk, junk, junk, junk, junk, junk, junk, junk, junk, junk, junk, junk, junk, junk, junk, junk, junk, junk, junk, junk, junk, junk, junk, junk, junk, junk, junk, junk, junk, junk, junk, junk, junk, junk, junk, junk, junk, junk, junk, junk, junk, junk, junk, junk, junk, junk, junk, junk, junk, junk, junk, junk, junk, junk, junk, junk, junk, junk, junk, junk, junk, junk, junk, junk, junk, junk, junk, junk, junk, junk, junk, junk, junk, junk, junk, junk, junk, junk, junk, junk, junk, junk, junk, junk, junk, junk, junk, junk, junk, junk, junk, junk, junk, junk, junk]
theorem XP3_104 : ∃ P : Rec → (Option Addr) → Nat → Nat → Nat → Int → Int → Bool → (Option Addr) → Nat → Nat → Int → AMem → Res, P = fun (L : Rec) (x2 : Option Addr) (x2n : Nat) (x2c : Nat) (x4 : Nat) (x15 : Int) (x16 : Int) (x17 : Bool) (x21 : Option Addr) (x21n : Nat) (x21c : Nat) (x22 : Int) (M : AMem) => code L c3_104 (k3_104 L) (s3_104 x2 x2n x2c x4 x15 x16 x17 x21 x21n x21c x22 M) M := ⟨_, rfl⟩
noncomputable def P3_104 : Rec → (Option Addr) → Nat → Nat → Nat → Int → Int → Bool → (Option Addr) → Nat → Nat → Int → AMem → Res := Classical.choose XP3_104
noncomputable def k3_83 (L : Rec) : KT := postK zl1 (loopK L b3_49 (blockK 2 (seqK (code L (.clear zl4 c3_84) (retK [.tmp 8])) (retK [.tmp 8]))))
def s3_83 (x1 : Int) (x2 : Option Addr) (x2n : Nat) (x2c : Nat) (x3 : Option Addr) (x3n : Nat) (x3c : Nat) (x4 : Nat) (x9 : Option Addr) (x10 : Option Addr) (x11 : Option Addr) (x11n : Nat) (x11c : Nat) (x12 : Option Addr) (x12n : Nat) (x12c : Nat) (x15 : Int) (x17 : Bool) (x18 : Bool) (x19 : Int) (M : AMem) : List Value := [junk, .int .u8 x1, .slice x2 x2n x2c, .slice x3 x3n x3c, .pointer (some ⟨x4, 0, none⟩), junk, junk, junk, junk, .pointer x9, .pointer x10, .slice x11 x11n x11c, .slice x12 x12n x12c, junk, junk, .int .i64 x15, junk, .bool x17, .bool x18, .int .i64 x19, junk, junk, junk, junk, junk, junk, junk, junk, junk, junk, junk, junk, junk, junk, junk, junk, junk, junk, junk, junk, junk, junk, junk, junk, junk, junk, junk, junk, junk, junk, junk, junk, junk, junk, junk, junk, junk, junk, junk, junk, junk, junk, junk, junk, junk, junk, junk, junk, junk, junk, junk, junk, junk, junk, junk, junk, junk, junk, junk, junk, junk, junk, junk, junk, junk, junk, junk, junk, junk, junk, junk, junk, junk, junk, junk, junk, junk, junk, junk, junk, junk, junk, junk, junk, junk, junk, junk, junk, junk, junk, junk, junk, junk, junk, junk, junk, junk, junk, junk, junk, junk, junk, junk, junk, junk, junk, junk, junk, junk, junk, junk, junk, junk, junk, junk, junk, junk, junk, junk, junk, junk, junk, junk, junk, junk, junk, junk, junk, junk, junk, junk, junk, junk, junk, junk, junk, junk, junk, junk, junk, junk, junk, junk, junk, junk, junk, junk, junk, junk, junk, junk, junk, junk, junk, junk, junk, junk, junk, junk, junk, junk, junk, junk, junk, junk, junk, junk]
theorem XP3_83 : ∃ P : Rec → Int → (Option Addr) → Nat → Nat → (Option Addr) → Nat → Nat → Nat → (Option Addr) → (Option Addr) → (Option Addr) → Nat → Nat → (Option Addr) → Nat → Nat → Int → Bool → Bool → Int → AMem → Res, P = fun (L : Rec) (x1 : Int) (x2 : Option Addr) (x2n : Nat) (x2c : Nat) (x3 : Option Addr) (x3n : Nat) (x3c : Nat) (x4 : Nat) (x9 : Option Addr) (x10 : Option Addr) (x11 : Option Addr) (x11n : Nat) (x11c : Nat) (x12 : Option Addr) (x12n : Nat) (x12c : Nat) (x15 : Int) (x17 : Bool) (x18 : Bool) (x19 : Int) (M : AMem) => code L c3_83 (k3_83 L) (s3_83 x1 x2 x2n x2c x3 x3n x3c x4 x9 x10 x11 x11n x11c x12 x12n x12c x15 x17 x18 x19 M) M := ⟨_, rfl⟩
noncomputable def P3_83 : Rec → Int → (Option Addr) → Nat → Nat → (Option Addr) → Nat → Nat → Nat → (Option Addr) → (Option Addr) → (Option Addr) → Nat → Nat → (Option Addr) → Nat → Nat → Int → Bool → Bool → Int → AMem → Res := Classical.choose XP3_83
theorem QP3_14_eq (L : Rec) (b3_22 c3_41 : ACode) (P3_14 : Rec → Int → (Option Addr) → Nat → Nat → (Option Addr) → Nat → Nat → Nat → (Option Addr) → (Option Addr) → AMem → Res) (hP3_14 : Eq P3_14 fun L x1 x2 x2n x2c x3 x3n x3c x4 x9 x10 M => code L (.seq (.ops o3_15) (.seq (.ops o3_17) (.seq (.seq (.ops o3_20) (.block 0 (.clear zl0 (.loop b3_22)))) (.clear zl5 c3_41)))) (retK [.tmp 8]) (s3_14 x1 x2 x2n x2c x3 x3n x3c x4 x9 x10 M) M) (P3_22 : Rec → Int → (Option Addr) → Nat → Nat → (Option Addr) → Nat → Nat → Nat → (Option Addr) → (Option Addr) → (Option Addr) → Nat → Nat → (Option Addr) → Nat → Nat → Int → AMem → Res) (hP3_22 : Eq P3_22 fun L x1 x2 x2n x2c x3 x3n x3c x4 x9 x10 x11 x11n x11c x12 x12n x12c x13 M => L.loop b3_22 (blockK 0 (seqK (code L (.clear zl5 c3_41) (retK [.tmp 8])) (retK [.tmp 8]))) (s3_22 x1 x2 x2n x2c x3 x3n x3c x4 x9 x10 x11 x11n x11c x12 x12n x12c x13 M) M) (x1 : Int) (x2 : Option Addr) (x2n : Nat) (x2c : Nat) (x3 : Option Addr) (x3n : Nat) (x3c : Nat) (x4 : Nat) (x9 : Option Addr) (x10 : Option Addr) (M : AMem) : P3_14 L x1 x2 x2n x2c x3 x3n x3c x4 x9 x10 M =
  P3_22 L x1 x2 x2n x2c x3 x3n x3c x4 x9 x10 none 0 0 none 0 0 0 M := by
  subst hP3_14; subst hP3_22; kernel_rfl
theorem P3_14_eq (L : Rec) (x1 : Int) (x2 : Option Addr) (x2n : Nat) (x2c : Nat) (x3 : Option Addr) (x3n : Nat) (x3c : Nat) (x4 : Nat) (x9 : Option Addr) (x10 : Option Addr) (M : AMem) : P3_14 L x1 x2 x2n x2c x3 x3n x3c x4 x9 x10 M =
  P3_22 L x1 x2 x2n x2c x3 x3n x3c x4 x9 x10 none 0 0 none 0 0 0 M := QP3_14_eq L b3_22 c3_41 P3_14 (Classical.choose_spec XP3_14) P3_22 (Classical.choose_spec XP3_22) x1 x2 x2n x2c x3 x3n x3c x4 x9 x10 M
theorem QP3_22_eq (L : Rec) (b3_22 c3_40 c3_41 : ACode) (hb : ∀ K t A, L.loop b3_22 K t A = code L (.post (.seq (.seq (.ops o3_25) (.cond (.tmp 60) (.skip) (.exit 0))) (.seq (.block 1 (.seq (.draw [] 0 o3_32 [(6, 12)]) (.seq (.ops o3_34) (.cond (.tmp 78) (.seq (.ops o3_37) (.ops o3_38)) (.skip))))) (.clear zl0 c3_40))) zl0) (loopK L b3_22 K) t A) (P3_22 : Rec → Int → (Option Addr) → Nat → Nat → (Option Addr) → Nat → Nat → Nat → (Option Addr) → (Option Addr) → (Option Addr) → Nat → Nat → (Option Addr) → Nat → Nat → Int → AMem → Res) (hP3_22 : Eq P3_22 fun L x1 x2 x2n x2c x3 x3n x3c x4 x9 x10 x11 x11n x11c x12 x12n x12c x13 M => L.loop b3_22 (blockK 0 (seqK (code L (.clear zl5 c3_41) (retK [.tmp 8])) (retK [.tmp 8]))) (s3_22 x1 x2 x2n x2c x3 x3n x3c x4 x9 x10 x11 x11n x11c x12 x12n x12c x13 M) M) (P3_40 : Rec → Int → (Option Addr) → Nat → Nat → (Option Addr) → Nat → Nat → Nat → (Option Addr) → (Option Addr) → (Option Addr) → Nat → Nat → (Option Addr) → Nat → Nat → Int → AMem → Res) (hP3_40 : Eq P3_40 fun L x1 x2 x2n x2c x3 x3n x3c x4 x9 x10 x11 x11n x11c x12 x12n x12c x13 M => code L c3_40 (postK zl0 (loopK L b3_22 (blockK 0 (seqK (code L (.clear zl5 c3_41) (retK [.tmp 8])) (retK [.tmp 8]))))) (s3_40 x1 x2 x2n x2c x3 x3n x3c x4 x9 x10 x11 x11n x11c x12 x12n x12c x13 M) M) (P3_41 : Rec → Int → (Option Addr) → Nat → Nat → (Option Addr) → Nat → Nat → Nat → (Option Addr) → (Option Addr) → (Option Addr) → Nat → Nat → (Option Addr) → Nat → Nat → AMem → Res) (hP3_41 : Eq P3_41 fun L x1 x2 x2n x2c x3 x3n x3c x4 x9 x10 x11 x11n x11c x12 x12n x12c M => code L c3_41 (retK [.tmp 8]) (s3_41 x1 x2 x2n x2c x3 x3n x3c x4 x9 x10 x11 x11n x11c x12 x12n x12c M) M) (x1 : Int) (x2 : Option Addr) (x2n : Nat) (x2c : Nat) (x3 : Option Addr) (x3n : Nat) (x3c : Nat) (x4 : Nat) (x9 : Option Addr) (x10 : Option Addr) (x11 : Option Addr) (x11n : Nat) (x11c : Nat) (x12 : Option Addr) (x12n : Nat) (x12c : Nat) (x13 : Int) (M : AMem) : P3_22 L x1 x2 x2n x2c x3 x3n x3c x4 x9 x10 x11 x11n x11c x12 x12n x12c x13 M =
  (if (decide (x13 < (Int.ofNat x2n))) = true
    then (Option.bind (intOf? .i64 (AMem.ld M x4 0)) fun x_1 =>
      (Option.bind (intOf? .i64 (AMem.ld M x4 1)) fun x_2 =>
      (Option.bind (L.call 12 [.agg #[.int .i64 x_1, .int .i64 x_2]] []) fun r_3 =>
      (Option.bind (aggOf? 2 r_3.1) fun cs_4 =>
      (Option.bind (intOf? .i64 (cs_4[0]?)) fun x_5 =>
      (Option.bind (intOf? .i64 (cs_4[1]?)) fun x_6 =>
      (match x2 with
      | some a_7 => (if (0 : Int) ≤ x13 ∧ x13 < (Int.ofNat x2n)
        then (Option.bind (intOf? .i64 (AMem.ld M a_7.block (a_7.off + ((Int.toNat x13) * 2)))) fun x_8 =>
          (match x2 with
          | some a_9 => (if (0 : Int) ≤ x13 ∧ x13 < (Int.ofNat x2n)
            then (Option.bind (sliceOf? (AMem.ld M a_9.block ((a_9.off + ((Int.toNat x13) * 2)) + 1))) fun s_10 =>
              (Option.bind (L.call 14 [.slice s_10.1 s_10.2.1 s_10.2.2] M) fun r_11 =>
              (Option.bind (sliceOf? (some r_11.1)) fun s_12 =>
              (Option.bind (L.call 13 [.agg #[.int .i64 x_5, .int .i64 x_6], .int .i64 x_8, .slice s_12.1 s_12.2.1 s_12.2.2] r_11.2) fun r_13 =>
              (Option.bind (ptrOf? (some r_13.1)) fun p_14 =>
              (if chkOk [(6, 12)] [(6, a_7.block)] [(12, (M, r_11.2))] = true
              then (if (!(Option.isNone p_14)) = true
                then (Option.bind (rowOf (r_13.2 ++ [AObj.cells [.pointer p_14] ⟨false, 0⟩]) 1 (.slice (some ⟨(List.length r_13.2), 0, none⟩) 1 1)) fun row_15 =>
                  (appendK 1 8 x11 x11n x11c 1 row_15 (r_13.2 ++ [AObj.cells [.pointer p_14] ⟨false, 0⟩]) fun p_16 n_17 c_18 M_19 =>
                  (Option.bind (rowOf (M_19 ++ [AObj.cells [.int .i64 x13] ⟨false, 0⟩]) 1 (.slice (some ⟨(List.length M_19), 0, none⟩) 1 1)) fun row_20 =>
                  (appendK 1 8 x12 x12n x12c 1 row_20 (M_19 ++ [AObj.cells [.int .i64 x13] ⟨false, 0⟩]) fun p_21 n_22 c_23 M_24 =>
                  P3_40 L x1 x2 x2n x2c x3 x3n x3c x4 x9 x10 p_16 n_17 c_18 p_21 n_22 c_23 x13 M_24))))
                else P3_40 L x1 x2 x2n x2c x3 x3n x3c x4 x9 x10 x11 x11n x11c x12 x12n x12c x13 r_13.2)
              else none))))))
            else none)
          | none => none))
        else none)
      | none => none)))))))
    else P3_41 L x1 x2 x2n x2c x3 x3n x3c x4 x9 x10 x11 x11n x11c x12 x12n x12c M) := by
  subst hP3_22; subst hP3_40; subst hP3_41; exact (hb (blockK 0 (seqK (code L (.clear zl5 c3_41) (retK [.tmp 8])) (retK [.tmp 8]))) (s3_22 x1 x2 x2n x2c x3 x3n x3c x4 x9 x10 x11 x11n x11c x12 x12n x12c x13 M) M).trans (by kernel_rfl)
theorem P3_22_eq (L : Rec) (hL : ∀ b K t A, L.loop b K t A = code L b (loopK L b K) t A) (x1 : Int) (x2 : Option Addr) (x2n : Nat) (x2c : Nat) (x3 : Option Addr) (x3n : Nat) (x3c : Nat) (x4 : Nat) (x9 : Option Addr) (x10 : Option Addr) (x11 : Option Addr) (x11n : Nat) (x11c : Nat) (x12 : Option Addr) (x12n : Nat) (x12c : Nat) (x13 : Int) (M : AMem) : P3_22 L x1 x2 x2n x2c x3 x3n x3c x4 x9 x10 x11 x11n x11c x12 x12n x12c x13 M =
  (if (decide (x13 < (Int.ofNat x2n))) = true
    then (Option.bind (intOf? .i64 (AMem.ld M x4 0)) fun x_1 =>
      (Option.bind (intOf? .i64 (AMem.ld M x4 1)) fun x_2 =>
      (Option.bind (L.call 12 [.agg #[.int .i64 x_1, .int .i64 x_2]] []) fun r_3 =>
      (Option.bind (aggOf? 2 r_3.1) fun cs_4 =>
      (Option.bind (intOf? .i64 (cs_4[0]?)) fun x_5 =>
      (Option.bind (intOf? .i64 (cs_4[1]?)) fun x_6 =>
      (match x2 with
      | some a_7 => (if (0 : Int) ≤ x13 ∧ x13 < (Int.ofNat x2n)
        then (Option.bind (intOf? .i64 (AMem.ld M a_7.block (a_7.off + ((Int.toNat x13) * 2)))) fun x_8 =>
          (match x2 with
          | some a_9 => (if (0 : Int) ≤ x13 ∧ x13 < (Int.ofNat x2n)
            then (Option.bind (sliceOf? (AMem.ld M a_9.block ((a_9.off + ((Int.toNat x13) * 2)) + 1))) fun s_10 =>
              (Option.bind (L.call 14 [.slice s_10.1 s_10.2.1 s_10.2.2] M) fun r_11 =>
              (Option.bind (sliceOf? (some r_11.1)) fun s_12 =>
              (Option.bind (L.call 13 [.agg #[.int .i64 x_5, .int .i64 x_6], .int .i64 x_8, .slice s_12.1 s_12.2.1 s_12.2.2] r_11.2) fun r_13 =>
              (Option.bind (ptrOf? (some r_13.1)) fun p_14 =>
              (if chkOk [(6, 12)] [(6, a_7.block)] [(12, (M, r_11.2))] = true
              then (if (!(Option.isNone p_14)) = true
                then (Option.bind (rowOf (r_13.2 ++ [AObj.cells [.pointer p_14] ⟨false, 0⟩]) 1 (.slice (some ⟨(List.length r_13.2), 0, none⟩) 1 1)) fun row_15 =>
                  (appendK 1 8 x11 x11n x11c 1 row_15 (r_13.2 ++ [AObj.cells [.pointer p_14] ⟨false, 0⟩]) fun p_16 n_17 c_18 M_19 =>
                  (Option.bind (rowOf (M_19 ++ [AObj.cells [.int .i64 x13] ⟨false, 0⟩]) 1 (.slice (some ⟨(List.length M_19), 0, none⟩) 1 1)) fun row_20 =>
                  (appendK 1 8 x12 x12n x12c 1 row_20 (M_19 ++ [AObj.cells [.int .i64 x13] ⟨false, 0⟩]) fun p_21 n_22 c_23 M_24 =>
                  P3_40 L x1 x2 x2n x2c x3 x3n x3c x4 x9 x10 p_16 n_17 c_18 p_21 n_22 c_23 x13 M_24))))
                else P3_40 L x1 x2 x2n x2c x3 x3n x3c x4 x9 x10 x11 x11n x11c x12 x12n x12c x13 r_13.2)
              else none))))))
            else none)
          | none => none))
        else none)
      | none => none)))))))
    else P3_41 L x1 x2 x2n x2c x3 x3n x3c x4 x9 x10 x11 x11n x11c x12 x12n x12c M) := QP3_22_eq L b3_22 c3_40 c3_41 (hL b3_22) P3_22 (Classical.choose_spec XP3_22) P3_40 (Classical.choose_spec XP3_40) P3_41 (Classical.choose_spec XP3_41) x1 x2 x2n x2c x3 x3n x3c x4 x9 x10 x11 x11n x11c x12 x12n x12c x13 M
theorem QP3_40_eq (L : Rec) (b3_22 c3_41 : ACode) (P3_22 : Rec → Int → (Option Addr) → Nat → Nat → (Option Addr) → Nat → Nat → Nat → (Option Addr) → (Option Addr) → (Option Addr) → Nat → Nat → (Option Addr) → Nat → Nat → Int → AMem → Res) (hP3_22 : Eq P3_22 fun L x1 x2 x2n x2c x3 x3n x3c x4 x9 x10 x11 x11n x11c x12 x12n x12c x13 M => L.loop b3_22 (blockK 0 (seqK (code L (.clear zl5 c3_41) (retK [.tmp 8])) (retK [.tmp 8]))) (s3_22 x1 x2 x2n x2c x3 x3n x3c x4 x9 x10 x11 x11n x11c x12 x12n x12c x13 M) M) (P3_40 : Rec → Int → (Option Addr) → Nat → Nat → (Option Addr) → Nat → Nat → Nat → (Option Addr) → (Option Addr) → (Option Addr) → Nat → Nat → (Option Addr) → Nat → Nat → Int → AMem → Res) (hP3_40 : Eq P3_40 fun L x1 x2 x2n x2c x3 x3n x3c x4 x9 x10 x11 x11n x11c x12 x12n x12c x13 M => code L (.ops o3_40) (postK zl0 (loopK L b3_22 (blockK 0 (seqK (code L (.clear zl5 c3_41) (retK [.tmp 8])) (retK [.tmp 8]))))) (s3_40 x1 x2 x2n x2c x3 x3n x3c x4 x9 x10 x11 x11n x11c x12 x12n x12c x13 M) M) (x1 : Int) (x2 : Option Addr) (x2n : Nat) (x2c : Nat) (x3 : Option Addr) (x3n : Nat) (x3c : Nat) (x4 : Nat) (x9 : Option Addr) (x10 : Option Addr) (x11 : Option Addr) (x11n : Nat) (x11c : Nat) (x12 : Option Addr) (x12n : Nat) (x12c : Nat) (x13 : Int) (M : AMem) : P3_40 L x1 x2 x2n x2c x3 x3n x3c x4 x9 x10 x11 x11n x11c x12 x12n x12c x13 M =
  P3_22 L x1 x2 x2n x2c x3 x3n x3c x4 x9 x10 x11 x11n x11c x12 x12n x12c (IntKind.wrap .i64 (x13 + 1)) M := by
  subst hP3_22; subst hP3_40; kernel_rfl
theorem P3_40_eq (L : Rec) (x1 : Int) (x2 : Option Addr) (x2n : Nat) (x2c : Nat) (x3 : Option Addr) (x3n : Nat) (x3c : Nat) (x4 : Nat) (x9 : Option Addr) (x10 : Option Addr) (x11 : Option Addr) (x11n : Nat) (x11c : Nat) (x12 : Option Addr) (x12n : Nat) (x12c : Nat) (x13 : Int) (M : AMem) : P3_40 L x1 x2 x2n x2c x3 x3n x3c x4 x9 x10 x11 x11n x11c x12 x12n x12c x13 M =
  P3_22 L x1 x2 x2n x2c x3 x3n x3c x4 x9 x10 x11 x11n x11c x12 x12n x12c (IntKind.wrap .i64 (x13 + 1)) M := QP3_40_eq L b3_22 c3_41 P3_22 (Classical.choose_spec XP3_22) P3_40 (Classical.choose_spec XP3_40) x1 x2 x2n x2c x3 x3n x3c x4 x9 x10 x11 x11n x11c x12 x12n x12c x13 M
theorem QP3_41_eq (L : Rec) (b3_49 c3_84 : ACode) (P3_41 : Rec → Int → (Option Addr) → Nat → Nat → (Option Addr) → Nat → Nat → Nat → (Option Addr) → (Option Addr) → (Option Addr) → Nat → Nat → (Option Addr) → Nat → Nat → AMem → Res) (hP3_41 : Eq P3_41 fun L x1 x2 x2n x2c x3 x3n x3c x4 x9 x10 x11 x11n x11c x12 x12n x12c M => code L (.seq (.ops o3_42) (.seq (.ops o3_44) (.seq (.seq (.ops o3_47) (.block 2 (.clear zl1 (.loop b3_49)))) (.clear zl4 c3_84)))) (retK [.tmp 8]) (s3_41 x1 x2 x2n x2c x3 x3n x3c x4 x9 x10 x11 x11n x11c x12 x12n x12c M) M) (P3_49 : Rec → Int → (Option Addr) → Nat → Nat → (Option Addr) → Nat → Nat → Nat → (Option Addr) → (Option Addr) → (Option Addr) → Nat → Nat → (Option Addr) → Nat → Nat → Int → Bool → Bool → Int → AMem → Res) (hP3_49 : Eq P3_49 fun L x1 x2 x2n x2c x3 x3n x3c x4 x9 x10 x11 x11n x11c x12 x12n x12c x15 x17 x18 x19 M => L.loop b3_49 (blockK 2 (seqK (code L (.clear zl4 c3_84) (retK [.tmp 8])) (retK [.tmp 8]))) (s3_49 x1 x2 x2n x2c x3 x3n x3c x4 x9 x10 x11 x11n x11c x12 x12n x12c x15 x17 x18 x19 M) M) (x1 : Int) (x2 : Option Addr) (x2n : Nat) (x2c : Nat) (x3 : Option Addr) (x3n : Nat) (x3c : Nat) (x4 : Nat) (x9 : Option Addr) (x10 : Option Addr) (x11 : Option Addr) (x11n : Nat) (x11c : Nat) (x12 : Option Addr) (x12n : Nat) (x12c : Nat) (M : AMem) : P3_41 L x1 x2 x2n x2c x3 x3n x3c x4 x9 x10 x11 x11n x11c x12 x12n x12c M =
  P3_49 L x1 x2 x2n x2c x3 x3n x3c x4 x9 x10 x11 x11n x11c x12 x12n x12c 0 false false 0 M := by
  subst hP3_41; subst hP3_49; kernel_rfl
theorem P3_41_eq (L : Rec) (x1 : Int) (x2 : Option Addr) (x2n : Nat) (x2c : Nat) (x3 : Option Addr) (x3n : Nat) (x3c : Nat) (x4 : Nat) (x9 : Option Addr) (x10 : Option Addr) (x11 : Option Addr) (x11n : Nat) (x11c : Nat) (x12 : Option Addr) (x12n : Nat) (x12c : Nat) (M : AMem) : P3_41 L x1 x2 x2n x2c x3 x3n x3c x4 x9 x10 x11 x11n x11c x12 x12n x12c M =
  P3_49 L x1 x2 x2n x2c x3 x3n x3c x4 x9 x10 x11 x11n x11c x12 x12n x12c 0 false false 0 M := QP3_41_eq L b3_49 c3_84 P3_41 (Classical.choose_spec XP3_41) P3_49 (Classical.choose_spec XP3_49) x1 x2 x2n x2c x3 x3n x3c x4 x9 x10 x11 x11n x11c x12 x12n x12c M
theorem QP3_49_eq (L : Rec) (b3_49 c3_68 c3_83 c3_84 : ACode) (hb : ∀ K t A, L.loop b3_49 K t A = code L (.post (.seq (.seq (.ops o3_52) (.cond (.tmp 95) (.skip) (.exit 2))) (.seq (.block 3 (.seq (.ops o3_59) (.seq (.seq (.ops o3_62) (.cond (.tmp 112) (.seq (.ops o3_65) (.ops o3_66)) (.skip))) (.clear zl2 c3_68)))) (.clear zl1 c3_83))) zl1) (loopK L b3_49 K) t A) (P3_49 : Rec → Int → (Option Addr) → Nat → Nat → (Option Addr) → Nat → Nat → Nat → (Option Addr) → (Option Addr) → (Option Addr) → Nat → Nat → (Option Addr) → Nat → Nat → Int → Bool → Bool → Int → AMem → Res) (hP3_49 : Eq P3_49 fun L x1 x2 x2n x2c x3 x3n x3c x4 x9 x10 x11 x11n x11c x12 x12n x12c x15 x17 x18 x19 M => L.loop b3_49 (blockK 2 (seqK (code L (.clear zl4 c3_84) (retK [.tmp 8])) (retK [.tmp 8]))) (s3_49 x1 x2 x2n x2c x3 x3n x3c x4 x9 x10 x11 x11n x11c x12 x12n x12c x15 x17 x18 x19 M) M) (P3_68 : Rec → Int → (Option Addr) → Nat → Nat → (Option Addr) → Nat → Nat → Nat → (Option Addr) → (Option Addr) → (Option Addr) → Nat → Nat → (Option Addr) → Nat → Nat → Int → Bool → Bool → Int → Int → AMem → Res) (hP3_68 : Eq P3_68 fun L x1 x2 x2n x2c x3 x3n x3c x4 x9 x10 x11 x11n x11c x12 x12n x12c x15 x17 x18 x19 x20 M => code L c3_68 (blockK 3 (seqK (code L (.clear zl1 c3_83) (postK zl1 (loopK L b3_49 (blockK 2 (seqK (code L (.clear zl4 c3_84) (retK [.tmp 8])) (retK [.tmp 8])))))) (postK zl1 (loopK L b3_49 (blockK 2 (seqK (code L (.clear zl4 c3_84) (retK [.tmp 8])) (retK [.tmp 8]))))))) (s3_68 x1 x2 x2n x2c x3 x3n x3c x4 x9 x10 x11 x11n x11c x12 x12n x12c x15 x17 x18 x19 x20 M) M) (P3_84 : Rec → Int → (Option Addr) → Nat → Nat → Nat → (Option Addr) → (Option Addr) → Nat → Nat → (Option Addr) → Nat → Nat → Int → Bool → AMem → Res) (hP3_84 : Eq P3_84 fun L x1 x2 x2n x2c x4 x10 x11 x11n x11c x12 x12n x12c x15 x17 M => code L c3_84 (retK [.tmp 8]) (s3_84 x1 x2 x2n x2c x4 x10 x11 x11n x11c x12 x12n x12c x15 x17 M) M) (x1 : Int) (x2 : Option Addr) (x2n : Nat) (x2c : Nat) (x3 : Option Addr) (x3n : Nat) (x3c : Nat) (x4 : Nat) (x9 : Option Addr) (x10 : Option Addr) (x11 : Option Addr) (x11n : Nat) (x11c : Nat) (x12 : Option Addr) (x12n : Nat) (x12c : Nat) (x15 : Int) (x17 : Bool) (x18 : Bool) (x19 : Int) (M : AMem) : P3_49 L x1 x2 x2n x2c x3 x3n x3c x4 x9 x10 x11 x11n x11c x12 x12n x12c x15 x17 x18 x19 M =
  (if (decide (x19 < (Int.ofNat x3n))) = true
    then (Option.bind (L.call 15 [.pointer x10] M) fun r_1 =>
      (Option.bind (boolOf? (some r_1.1)) fun q_2 =>
      (if (!q_2) = true
      then (match x3 with
        | some a_3 => (if (0 : Int) ≤ x19 ∧ x19 < (Int.ofNat x3n)
          then (Option.bind (intOf? .u8 (AMem.ld r_1.2 a_3.block (a_3.off + ((Int.toNat x19) * 1)))) fun x_4 =>
            (if (IntKind.wrap .i64 ((Int.ofNat x11n) + 1)) = 0
            then none
            else (if ((Int.tmod (IntKind.wrap .i64 x_4) (IntKind.wrap .i64 ((Int.ofNat x11n) + 1))) == 0) = true
              then (if (!x18) = true
                then (Option.bind (L.call 16 [.slice x11 x11n x11c, .slice x12 x12n x12c, .bool true] r_1.2) fun r_5 =>
                  (Option.bind (intOf? .i64 (some r_5.1)) fun x_6 =>
                  P3_68 L x1 x2 x2n x2c x3 x3n x3c x4 x9 x10 x11 x11n x11c x12 x12n x12c x_6 x17 true x19 (Int.tmod (IntKind.wrap .i64 x_4) (IntKind.wrap .i64 ((Int.ofNat x11n) + 1))) r_5.2))
                else P3_68 L x1 x2 x2n x2c x3 x3n x3c x4 x9 x10 x11 x11n x11c x12 x12n x12c x15 x17 x18 x19 (Int.tmod (IntKind.wrap .i64 x_4) (IntKind.wrap .i64 ((Int.ofNat x11n) + 1))) r_1.2)
              else P3_68 L x1 x2 x2n x2c x3 x3n x3c x4 x9 x10 x11 x11n x11c x12 x12n x12c x15 x17 x18 x19 (Int.tmod (IntKind.wrap .i64 x_4) (IntKind.wrap .i64 ((Int.ofNat x11n) + 1))) r_1.2)))
          else none)
        | none => none)
      else P3_84 L x1 x2 x2n x2c x4 x10 x11 x11n x11c x12 x12n x12c x15 x17 r_1.2)))
    else P3_84 L x1 x2 x2n x2c x4 x10 x11 x11n x11c x12 x12n x12c x15 x17 M) := by
  subst hP3_49; subst hP3_68; subst hP3_84; exact (hb (blockK 2 (seqK (code L (.clear zl4 c3_84) (retK [.tmp 8])) (retK [.tmp 8]))) (s3_49 x1 x2 x2n x2c x3 x3n x3c x4 x9 x10 x11 x11n x11c x12 x12n x12c x15 x17 x18 x19 M) M).trans (by kernel_rfl)
theorem P3_49_eq (L : Rec) (hL : ∀ b K t A, L.loop b K t A = code L b (loopK L b K) t A) (x1 : Int) (x2 : Option Addr) (x2n : Nat) (x2c : Nat) (x3 : Option Addr) (x3n : Nat) (x3c : Nat) (x4 : Nat) (x9 : Option Addr) (x10 : Option Addr) (x11 : Option Addr) (x11n : Nat) (x11c : Nat) (x12 : Option Addr) (x12n : Nat) (x12c : Nat) (x15 : Int) (x17 : Bool) (x18 : Bool) (x19 : Int) (M : AMem) : P3_49 L x1 x2 x2n x2c x3 x3n x3c x4 x9 x10 x11 x11n x11c x12 x12n x12c x15 x17 x18 x19 M =
  (if (decide (x19 < (Int.ofNat x3n))) = true
    then (Option.bind (L.call 15 [.pointer x10] M) fun r_1 =>
      (Option.bind (boolOf? (some r_1.1)) fun q_2 =>
      (if (!q_2) = true
      then (match x3 with
        | some a_3 => (if (0 : Int) ≤ x19 ∧ x19 < (Int.ofNat x3n)
          then (Option.bind (intOf? .u8 (AMem.ld r_1.2 a_3.block (a_3.off + ((Int.toNat x19) * 1)))) fun x_4 =>
            (if (IntKind.wrap .i64 ((Int.ofNat x11n) + 1)) = 0
            then none
            else (if ((Int.tmod (IntKind.wrap .i64 x_4) (IntKind.wrap .i64 ((Int.ofNat x11n) + 1))) == 0) = true
              then (if (!x18) = true
                then (Option.bind (L.call 16 [.slice x11 x11n x11c, .slice x12 x12n x12c, .bool true] r_1.2) fun r_5 =>
                  (Option.bind (intOf? .i64 (some r_5.1)) fun x_6 =>
                  P3_68 L x1 x2 x2n x2c x3 x3n x3c x4 x9 x10 x11 x11n x11c x12 x12n x12c x_6 x17 true x19 (Int.tmod (IntKind.wrap .i64 x_4) (IntKind.wrap .i64 ((Int.ofNat x11n) + 1))) r_5.2))
                else P3_68 L x1 x2 x2n x2c x3 x3n x3c x4 x9 x10 x11 x11n x11c x12 x12n x12c x15 x17 x18 x19 (Int.tmod (IntKind.wrap .i64 x_4) (IntKind.wrap .i64 ((Int.ofNat x11n) + 1))) r_1.2)
              else P3_68 L x1 x2 x2n x2c x3 x3n x3c x4 x9 x10 x11 x11n x11c x12 x12n x12c x15 x17 x18 x19 (Int.tmod (IntKind.wrap .i64 x_4) (IntKind.wrap .i64 ((Int.ofNat x11n) + 1))) r_1.2)))
          else none)
        | none => none)
      else P3_84 L x1 x2 x2n x2c x4 x10 x11 x11n x11c x12 x12n x12c x15 x17 r_1.2)))
    else P3_84 L x1 x2 x2n x2c x4 x10 x11 x11n x11c x12 x12n x12c x15 x17 M) := QP3_49_eq L b3_49 c3_68 c3_83 c3_84 (hL b3_49) P3_49 (Classical.choose_spec XP3_49) P3_68 (Classical.choose_spec XP3_68) P3_84 (Classical.choose_spec XP3_84) x1 x2 x2n x2c x3 x3n x3c x4 x9 x10 x11 x11n x11c x12 x12n x12c x15 x17 x18 x19 M
theorem QP3_68_eq (L : Rec) (b3_49 c3_82 c3_83 c3_84 : ACode) (P3_68 : Rec → Int → (Option Addr) → Nat → Nat → (Option Addr) → Nat → Nat → Nat → (Option Addr) → (Option Addr) → (Option Addr) → Nat → Nat → (Option Addr) → Nat → Nat → Int → Bool → Bool → Int → Int → AMem → Res) (hP3_68 : Eq P3_68 fun L x1 x2 x2n x2c x3 x3n x3c x4 x9 x10 x11 x11n x11c x12 x12n x12c x15 x17 x18 x19 x20 M => code L (.seq (.seq (.ops o3_70) (.cond (.tmp 123) (.seq (.ops o3_73) (.ret)) (.skip))) (.seq (.seq (.ops o3_78) (.cond (.tmp 125) (.ops o3_80) (.skip))) (.clear zl1 c3_82))) (blockK 3 (seqK (code L (.clear zl1 c3_83) (postK zl1 (loopK L b3_49 (blockK 2 (seqK (code L (.clear zl4 c3_84) (retK [.tmp 8])) (retK [.tmp 8])))))) (postK zl1 (loopK L b3_49 (blockK 2 (seqK (code L (.clear zl4 c3_84) (retK [.tmp 8])) (retK [.tmp 8]))))))) (s3_68 x1 x2 x2n x2c x3 x3n x3c x4 x9 x10 x11 x11n x11c x12 x12n x12c x15 x17 x18 x19 x20 M) M) (P3_82 : Rec → Int → (Option Addr) → Nat → Nat → (Option Addr) → Nat → Nat → Nat → (Option Addr) → (Option Addr) → (Option Addr) → Nat → Nat → (Option Addr) → Nat → Nat → Int → Bool → Bool → Int → AMem → Res) (hP3_82 : Eq P3_82 fun L x1 x2 x2n x2c x3 x3n x3c x4 x9 x10 x11 x11n x11c x12 x12n x12c x15 x17 x18 x19 M => code L c3_82 (blockK 3 (seqK (code L (.clear zl1 c3_83) (postK zl1 (loopK L b3_49 (blockK 2 (seqK (code L (.clear zl4 c3_84) (retK [.tmp 8])) (retK [.tmp 8])))))) (postK zl1 (loopK L b3_49 (blockK 2 (seqK (code L (.clear zl4 c3_84) (retK [.tmp 8])) (retK [.tmp 8]))))))) (s3_82 x1 x2 x2n x2c x3 x3n x3c x4 x9 x10 x11 x11n x11c x12 x12n x12c x15 x17 x18 x19 M) M) (x1 : Int) (x2 : Option Addr) (x2n : Nat) (x2c : Nat) (x3 : Option Addr) (x3n : Nat) (x3c : Nat) (x4 : Nat) (x9 : Option Addr) (x10 : Option Addr) (x11 : Option Addr) (x11n : Nat) (x11c : Nat) (x12 : Option Addr) (x12n : Nat) (x12c : Nat) (x15 : Int) (x17 : Bool) (x18 : Bool) (x19 : Int) (x20 : Int) (M : AMem) : P3_68 L x1 x2 x2n x2c x3 x3n x3c x4 x9 x10 x11 x11n x11c x12 x12n x12c x15 x17 x18 x19 x20 M =
  (if (x20 == 0) = true
    then (Option.bind (L.call 17 [.pointer x10, .pointer x9] M) fun r_1 =>
      (Option.bind (boolOf? (some r_1.1)) fun q_2 =>
      (if (!q_2) = true
      then some (.bool false, r_1.2)
      else (if (decide (x20 > 0)) = true
        then (match x11 with
          | some a_3 => (if (0 : Int) ≤ (IntKind.wrap .i64 (x20 - 1)) ∧ (IntKind.wrap .i64 (x20 - 1)) < (Int.ofNat x11n)
            then (Option.bind (ptrOf? (AMem.ld r_1.2 a_3.block (a_3.off + ((Int.toNat (IntKind.wrap .i64 (x20 - 1))) * 1)))) fun p_4 =>
              (Option.bind (L.call 18 [.pointer p_4, .pointer x9] r_1.2) fun r_5 =>
              (Option.bind (boolOf? (some r_5.1)) fun q_6 =>
              P3_82 L x1 x2 x2n x2c x3 x3n x3c x4 x9 x10 x11 x11n x11c x12 x12n x12c x15 x17 x18 x19 r_5.2)))
            else none)
          | none => none)
        else P3_82 L x1 x2 x2n x2c x3 x3n x3c x4 x9 x10 x11 x11n x11c x12 x12n x12c x15 x17 x18 x19 r_1.2))))
    else (if (decide (x20 > 0)) = true
      then (match x11 with
        | some a_7 => (if (0 : Int) ≤ (IntKind.wrap .i64 (x20 - 1)) ∧ (IntKind.wrap .i64 (x20 - 1)) < (Int.ofNat x11n)
          then (Option.bind (ptrOf? (AMem.ld M a_7.block (a_7.off + ((Int.toNat (IntKind.wrap .i64 (x20 - 1))) * 1)))) fun p_8 =>
            (Option.bind (L.call 18 [.pointer p_8, .pointer x9] M) fun r_9 =>
            (Option.bind (boolOf? (some r_9.1)) fun q_10 =>
            P3_82 L x1 x2 x2n x2c x3 x3n x3c x4 x9 x10 x11 x11n x11c x12 x12n x12c x15 x17 x18 x19 r_9.2)))
          else none)
        | none => none)
      else P3_82 L x1 x2 x2n x2c x3 x3n x3c x4 x9 x10 x11 x11n x11c x12 x12n x12c x15 x17 x18 x19 M)) := by
  subst hP3_68; subst hP3_82; kernel_rfl
theorem P3_68_eq (L : Rec) (x1 : Int) (x2 : Option Addr) (x2n : Nat) (x2c : Nat) (x3 : Option Addr) (x3n : Nat) (x3c : Nat) (x4 : Nat) (x9 : Option Addr) (x10 : Option Addr) (x11 : Option Addr) (x11n : Nat) (x11c : Nat) (x12 : Option Addr) (x12n : Nat) (x12c : Nat) (x15 : Int) (x17 : Bool) (x18 : Bool) (x19 : Int) (x20 : Int) (M : AMem) : P3_68 L x1 x2 x2n x2c x3 x3n x3c x4 x9 x10 x11 x11n x11c x12 x12n x12c x15 x17 x18 x19 x20 M =
  (if (x20 == 0) = true
    then (Option.bind (L.call 17 [.pointer x10, .pointer x9] M) fun r_1 =>
      (Option.bind (boolOf? (some r_1.1)) fun q_2 =>
      (if (!q_2) = true
      then some (.bool false, r_1.2)
      else (if (decide (x20 > 0)) = true
        then (match x11 with
          | some a_3 => (if (0 : Int) ≤ (IntKind.wrap .i64 (x20 - 1)) ∧ (IntKind.wrap .i64 (x20 - 1)) < (Int.ofNat x11n)
            then (Option.bind (ptrOf? (AMem.ld r_1.2 a_3.block (a_3.off + ((Int.toNat (IntKind.wrap .i64 (x20 - 1))) * 1)))) fun p_4 =>
              (Option.bind (L.call 18 [.pointer p_4, .pointer x9] r_1.2) fun r_5 =>
              (Option.bind (boolOf? (some r_5.1)) fun q_6 =>
              P3_82 L x1 x2 x2n x2c x3 x3n x3c x4 x9 x10 x11 x11n x11c x12 x12n x12c x15 x17 x18 x19 r_5.2)))
            else none)
          | none => none)
        else P3_82 L x1 x2 x2n x2c x3 x3n x3c x4 x9 x10 x11 x11n x11c x12 x12n x12c x15 x17 x18 x19 r_1.2))))
    else (if (decide (x20 > 0)) = true
      then (match x11 with
        | some a_7 => (if (0 : Int) ≤ (IntKind.wrap .i64 (x20 - 1)) ∧ (IntKind.wrap .i64 (x20 - 1)) < (Int.ofNat x11n)
          then (Option.bind (ptrOf? (AMem.ld M a_7.block (a_7.off + ((Int.toNat (IntKind.wrap .i64 (x20 - 1))) * 1)))) fun p_8 =>
            (Option.bind (L.call 18 [.pointer p_8, .pointer x9] M) fun r_9 =>
            (Option.bind (boolOf? (some r_9.1)) fun q_10 =>
            P3_82 L x1 x2 x2n x2c x3 x3n x3c x4 x9 x10 x11 x11n x11c x12 x12n x12c x15 x17 x18 x19 r_9.2)))
          else none)
        | none => none)
      else P3_82 L x1 x2 x2n x2c x3 x3n x3c x4 x9 x10 x11 x11n x11c x12 x12n x12c x15 x17 x18 x19 M)) := QP3_68_eq L b3_49 c3_82 c3_83 c3_84 P3_68 (Classical.choose_spec XP3_68) P3_82 (Classical.choose_spec XP3_82) x1 x2 x2n x2c x3 x3n x3c x4 x9 x10 x11 x11n x11c x12 x12n x12c x15 x17 x18 x19 x20 M
theorem QP3_84_eq (L : Rec) (c3_104 : ACode) (P3_84 : Rec → Int → (Option Addr) → Nat → Nat → Nat → (Option Addr) → (Option Addr) → Nat → Nat → (Option Addr) → Nat → Nat → Int → Bool → AMem → Res) (hP3_84 : Eq P3_84 fun L x1 x2 x2n x2c x4 x10 x11 x11n x11c x12 x12n x12c x15 x17 M => code L (.seq (.seq (.ops o3_86) (.cond (.tmp 144) (.seq (.ops o3_89) (.ret)) (.skip))) (.seq (.ops o3_93) (.seq (.seq (.ops o3_96) (.cond (.tmp 152) (.seq (.ops o3_99) (.ret)) (.skip))) (.seq (.ops o3_103) (.clear zl3 c3_104))))) (retK [.tmp 8]) (s3_84 x1 x2 x2n x2c x4 x10 x11 x11n x11c x12 x12n x12c x15 x17 M) M) (P3_104 : Rec → (Option Addr) → Nat → Nat → Nat → Int → Int → Bool → (Option Addr) → Nat → Nat → Int → AMem → Res) (hP3_104 : Eq P3_104 fun L x2 x2n x2c x4 x15 x16 x17 x21 x21n x21c x22 M => code L c3_104 (retK [.tmp 8]) (s3_104 x2 x2n x2c x4 x15 x16 x17 x21 x21n x21c x22 M) M) (x1 : Int) (x2 : Option Addr) (x2n : Nat) (x2c : Nat) (x4 : Nat) (x10 : Option Addr) (x11 : Option Addr) (x11n : Nat) (x11c : Nat) (x12 : Option Addr) (x12n : Nat) (x12c : Nat) (x15 : Int) (x17 : Bool) (M : AMem) : P3_84 L x1 x2 x2n x2c x4 x10 x11 x11n x11c x12 x12n x12c x15 x17 M =
  (Option.bind (L.call 15 [.pointer x10] M) fun r_1 =>
    (Option.bind (boolOf? (some r_1.1)) fun q_2 =>
    (if (!q_2) = true
    then (Option.bind (L.call 8 [] []) fun r_3 =>
      (Option.bind (boolOf? (some r_3.1)) fun q_4 =>
      some (.bool q_4, r_1.2)))
    else (Option.bind (L.call 20 [.pointer x10] r_1.2) fun r_5 =>
      (Option.bind (tupOf? 2 r_5.1) fun cs_6 =>
      (Option.bind (cs_6[0]?) fun u_7 =>
      (Option.bind (sliceOf? (some u_7)) fun s_8 =>
      (Option.bind (cs_6[1]?) fun u_9 =>
      (Option.bind (intOf? .i64 (some u_9)) fun x_10 =>
      (if (x_10 == 12) = true
      then (if ((Int.ofNat s_8.2.1) == 0) = true
        then (Option.bind (L.call 21 [.pointer x10] r_5.2) fun r_11 =>
          (Option.bind (intOf? .i64 (some r_11.1)) fun x_12 =>
          (if (x_12 == (IntKind.wrap .i64 (1 + (Int.tmod (IntKind.wrap .i64 x1) 20)))) = true
          then (Option.bind (L.call 8 [] []) fun r_13 =>
            (Option.bind (boolOf? (some r_13.1)) fun q_14 =>
            some (.bool q_14, r_11.2)))
          else some (.bool false, r_11.2))))
        else some (.bool false, r_5.2))
      else (Option.bind (L.call 16 [.slice x11 x11n x11c, .slice x12 x12n x12c, .bool false] r_5.2) fun r_15 =>
        (Option.bind (intOf? .i64 (some r_15.1)) fun x_16 =>
        P3_104 L x2 x2n x2c x4 x15 x_16 x17 s_8.1 s_8.2.1 s_8.2.2 x_10 r_15.2)))))))))))) := by
  subst hP3_84; subst hP3_104; kernel_rfl
theorem P3_84_eq (L : Rec) (x1 : Int) (x2 : Option Addr) (x2n : Nat) (x2c : Nat) (x4 : Nat) (x10 : Option Addr) (x11 : Option Addr) (x11n : Nat) (x11c : Nat) (x12 : Option Addr) (x12n : Nat) (x12c : Nat) (x15 : Int) (x17 : Bool) (M : AMem) : P3_84 L x1 x2 x2n x2c x4 x10 x11 x11n x11c x12 x12n x12c x15 x17 M =
  (Option.bind (L.call 15 [.pointer x10] M) fun r_1 =>
    (Option.bind (boolOf? (some r_1.1)) fun q_2 =>
    (if (!q_2) = true
    then (Option.bind (L.call 8 [] []) fun r_3 =>
      (Option.bind (boolOf? (some r_3.1)) fun q_4 =>
      some (.bool q_4, r_1.2)))
    else (Option.bind (L.call 20 [.pointer x10] r_1.2) fun r_5 =>
      (Option.bind (tupOf? 2 r_5.1) fun cs_6 =>
      (Option.bind (cs_6[0]?) fun u_7 =>
      (Option.bind (sliceOf? (some u_7)) fun s_8 =>
      (Option.bind (cs_6[1]?) fun u_9 =>
      (Option.bind (intOf? .i64 (some u_9)) fun x_10 =>
      (if (x_10 == 12) = true
      then (if ((Int.ofNat s_8.2.1) == 0) = true
        then (Option.bind (L.call 21 [.pointer x10] r_5.2) fun r_11 =>
          (Option.bind (intOf? .i64 (some r_11.1)) fun x_12 =>
          (if (x_12 == (IntKind.wrap .i64 (1 + (Int.tmod (IntKind.wrap .i64 x1) 20)))) = true
          then (Option.bind (L.call 8 [] []) fun r_13 =>
            (Option.bind (boolOf? (some r_13.1)) fun q_14 =>
            some (.bool q_14, r_11.2)))
          else some (.bool false, r_11.2))))
        else some (.bool false, r_5.2))
      else (Option.bind (L.call 16 [.slice x11 x11n x11c, .slice x12 x12n x12c, .bool false] r_5.2) fun r_15 =>
        (Option.bind (intOf? .i64 (some r_15.1)) fun x_16 =>
        P3_104 L x2 x2n x2c x4 x15 x_16 x17 s_8.1 s_8.2.1 s_8.2.2 x_10 r_15.2)))))))))))) := QP3_84_eq L c3_104 P3_84 (Classical.choose_spec XP3_84) P3_104 (Classical.choose_spec XP3_104) x1 x2 x2n x2c x4 x10 x11 x11n x11c x12 x12n x12c x15 x17 M
theorem QP3_82_eq (L : Rec) (b3_49 c3_83 c3_84 : ACode) (P3_82 : Rec → Int → (Option Addr) → Nat → Nat → (Option Addr) → Nat → Nat → Nat → (Option Addr) → (Option Addr) → (Option Addr) → Nat → Nat → (Option Addr) → Nat → Nat → Int → Bool → Bool → Int → AMem → Res) (hP3_82 : Eq P3_82 fun L x1 x2 x2n x2c x3 x3n x3c x4 x9 x10 x11 x11n x11c x12 x12n x12c x15 x17 x18 x19 M => code L (.ops o3_82) (blockK 3 (seqK (code L (.clear zl1 c3_83) (postK zl1 (loopK L b3_49 (blockK 2 (seqK (code L (.clear zl4 c3_84) (retK [.tmp 8])) (retK [.tmp 8])))))) (postK zl1 (loopK L b3_49 (blockK 2 (seqK (code L (.clear zl4 c3_84) (retK [.tmp 8])) (retK [.tmp 8]))))))) (s3_82 x1 x2 x2n x2c x3 x3n x3c x4 x9 x10 x11 x11n x11c x12 x12n x12c x15 x17 x18 x19 M) M) (P3_83 : Rec → Int → (Option Addr) → Nat → Nat → (Option Addr) → Nat → Nat → Nat → (Option Addr) → (Option Addr) → (Option Addr) → Nat → Nat → (Option Addr) → Nat → Nat → Int → Bool → Bool → Int → AMem → Res) (hP3_83 : Eq P3_83 fun L x1 x2 x2n x2c x3 x3n x3c x4 x9 x10 x11 x11n x11c x12 x12n x12c x15 x17 x18 x19 M => code L c3_83 (postK zl1 (loopK L b3_49 (blockK 2 (seqK (code L (.clear zl4 c3_84) (retK [.tmp 8])) (retK [.tmp 8]))))) (s3_83 x1 x2 x2n x2c x3 x3n x3c x4 x9 x10 x11 x11n x11c x12 x12n x12c x15 x17 x18 x19 M) M) (x1 : Int) (x2 : Option Addr) (x2n : Nat) (x2c : Nat) (x3 : Option Addr) (x3n : Nat) (x3c : Nat) (x4 : Nat) (x9 : Option Addr) (x10 : Option Addr) (x11 : Option Addr) (x11n : Nat) (x11c : Nat) (x12 : Option Addr) (x12n : Nat) (x12c : Nat) (x15 : Int) (x17 : Bool) (x18 : Bool) (x19 : Int) (M : AMem) : P3_82 L x1 x2 x2n x2c x3 x3n x3c x4 x9 x10 x11 x11n x11c x12 x12n x12c x15 x17 x18 x19 M =
  (if x17 = true
    then P3_83 L x1 x2 x2n x2c x3 x3n x3c x4 x9 x10 x11 x11n x11c x12 x12n x12c x15 true x18 x19 M
    else (if x18 = true
      then (Option.bind (intOf? .i64 (AMem.ld M x4 0)) fun x_1 =>
        (Option.bind (intOf? .i64 (AMem.ld M x4 1)) fun x_2 =>
        (Option.bind (L.call 19 [.agg #[.int .i64 x_1, .int .i64 x_2], .slice x11 x11n x11c] M) fun r_3 =>
        (Option.bind (boolOf? (some r_3.1)) fun q_4 =>
        P3_83 L x1 x2 x2n x2c x3 x3n x3c x4 x9 x10 x11 x11n x11c x12 x12n x12c x15 q_4 x18 x19 r_3.2))))
      else P3_83 L x1 x2 x2n x2c x3 x3n x3c x4 x9 x10 x11 x11n x11c x12 x12n x12c x15 false x18 x19 M)) := by
  subst hP3_82; subst hP3_83; kernel_rfl
theorem P3_82_eq (L : Rec) (x1 : Int) (x2 : Option Addr) (x2n : Nat) (x2c : Nat) (x3 : Option Addr) (x3n : Nat) (x3c : Nat) (x4 : Nat) (x9 : Option Addr) (x10 : Option Addr) (x11 : Option Addr) (x11n : Nat) (x11c : Nat) (x12 : Option Addr) (x12n : Nat) (x12c : Nat) (x15 : Int) (x17 : Bool) (x18 : Bool) (x19 : Int) (M : AMem) : P3_82 L x1 x2 x2n x2c x3 x3n x3c x4 x9 x10 x11 x11n x11c x12 x12n x12c x15 x17 x18 x19 M =
  (if x17 = true
    then P3_83 L x1 x2 x2n x2c x3 x3n x3c x4 x9 x10 x11 x11n x11c x12 x12n x12c x15 true x18 x19 M
    else (if x18 = true
      then (Option.bind (intOf? .i64 (AMem.ld M x4 0)) fun x_1 =>
        (Option.bind (intOf? .i64 (AMem.ld M x4 1)) fun x_2 =>
        (Option.bind (L.call 19 [.agg #[.int .i64 x_1, .int .i64 x_2], .slice x11 x11n x11c] M) fun r_3 =>
        (Option.bind (boolOf? (some r_3.1)) fun q_4 =>
        P3_83 L x1 x2 x2n x2c x3 x3n x3c x4 x9 x10 x11 x11n x11c x12 x12n x12c x15 q_4 x18 x19 r_3.2))))
      else P3_83 L x1 x2 x2n x2c x3 x3n x3c x4 x9 x10 x11 x11n x11c x12 x12n x12c x15 false x18 x19 M)) := QP3_82_eq L b3_49 c3_83 c3_84 P3_82 (Classical.choose_spec XP3_82) P3_83 (Classical.choose_spec XP3_83) x1 x2 x2n x2c x3 x3n x3c x4 x9 x10 x11 x11n x11c x12 x12n x12c x15 x17 x18 x19 M
theorem QP3_104_eq (L : Rec) (P3_104 : Rec → (Option Addr) → Nat → Nat → Nat → Int → Int → Bool → (Option Addr) → Nat → Nat → Int → AMem → Res) (hP3_104 : Eq P3_104 fun L x2 x2n x2c x4 x15 x16 x17 x21 x21n x21c x22 M => code L (.seq (.ops o3_105) (.ret)) (retK [.tmp 8]) (s3_104 x2 x2n x2c x4 x15 x16 x17 x21 x21n x21c x22 M) M) (x2 : Option Addr) (x2n : Nat) (x2c : Nat) (x4 : Nat) (x15 : Int) (x16 : Int) (x17 : Bool) (x21 : Option Addr) (x21n : Nat) (x21c : Nat) (x22 : Int) (M : AMem) : P3_104 L x2 x2n x2c x4 x15 x16 x17 x21 x21n x21c x22 M =
  (if (x22 == 0) = true
    then (if x17 = true
      then (Option.bind (intOf? .i64 (AMem.ld M x4 0)) fun x_1 =>
        (Option.bind (intOf? .i64 (AMem.ld M x4 1)) fun x_2 =>
        (Option.bind (L.call 22 [.agg #[.int .i64 x_1, .int .i64 x_2], .slice x2 x2n x2c, .slice x21 x21n x21c, .int .i64 x15, .int .i64 x16] M) fun r_3 =>
        (Option.bind (boolOf? (some r_3.1)) fun q_4 =>
        (if q_4 = true
        then (Option.bind (L.call 8 [] []) fun r_5 =>
          (Option.bind (boolOf? (some r_5.1)) fun q_6 =>
          some (.bool q_6, r_3.2)))
        else some (.bool false, r_3.2))))))
      else some (.bool false, M))
    else some (.bool false, M)) := by
  subst hP3_104; kernel_rfl
theorem P3_104_eq (L : Rec) (x2 : Option Addr) (x2n : Nat) (x2c : Nat) (x4 : Nat) (x15 : Int) (x16 : Int) (x17 : Bool) (x21 : Option Addr) (x21n : Nat) (x21c : Nat) (x22 : Int) (M : AMem) : P3_104 L x2 x2n x2c x4 x15 x16 x17 x21 x21n x21c x22 M =
  (if (x22 == 0) = true
    then (if x17 = true
      then (Option.bind (intOf? .i64 (AMem.ld M x4 0)) fun x_1 =>
        (Option.bind (intOf? .i64 (AMem.ld M x4 1)) fun x_2 =>
        (Option.bind (L.call 22 [.agg #[.int .i64 x_1, .int .i64 x_2], .slice x2 x2n x2c, .slice x21 x21n x21c, .int .i64 x15, .int .i64 x16] M) fun r_3 =>
        (Option.bind (boolOf? (some r_3.1)) fun q_4 =>
        (if q_4 = true
        then (Option.bind (L.call 8 [] []) fun r_5 =>
          (Option.bind (boolOf? (some r_5.1)) fun q_6 =>
          some (.bool q_6, r_3.2)))
        else some (.bool false, r_3.2))))))
      else some (.bool false, M))
    else some (.bool false, M)) := QP3_104_eq L P3_104 (Classical.choose_spec XP3_104) x2 x2n x2c x4 x15 x16 x17 x21 x21n x21c x22 M
theorem QP3_83_eq (L : Rec) (b3_49 c3_84 : ACode) (P3_49 : Rec → Int → (Option Addr) → Nat → Nat → (Option Addr) → Nat → Nat → Nat → (Option Addr) → (Option Addr) → (Option Addr) → Nat → Nat → (Option Addr) → Nat → Nat → Int → Bool → Bool → Int → AMem → Res) (hP3_49 : Eq P3_49 fun L x1 x2 x2n x2c x3 x3n x3c x4 x9 x10 x11 x11n x11c x12 x12n x12c x15 x17 x18 x19 M => L.loop b3_49 (blockK 2 (seqK (code L (.clear zl4 c3_84) (retK [.tmp 8])) (retK [.tmp 8]))) (s3_49 x1 x2 x2n x2c x3 x3n x3c x4 x9 x10 x11 x11n x11c x12 x12n x12c x15 x17 x18 x19 M) M) (P3_83 : Rec → Int → (Option Addr) → Nat → Nat → (Option Addr) → Nat → Nat → Nat → (Option Addr) → (Option Addr) → (Option Addr) → Nat → Nat → (Option Addr) → Nat → Nat → Int → Bool → Bool → Int → AMem → Res) (hP3_83 : Eq P3_83 fun L x1 x2 x2n x2c x3 x3n x3c x4 x9 x10 x11 x11n x11c x12 x12n x12c x15 x17 x18 x19 M => code L (.ops o3_83) (postK zl1 (loopK L b3_49 (blockK 2 (seqK (code L (.clear zl4 c3_84) (retK [.tmp 8])) (retK [.tmp 8]))))) (s3_83 x1 x2 x2n x2c x3 x3n x3c x4 x9 x10 x11 x11n x11c x12 x12n x12c x15 x17 x18 x19 M) M) (x1 : Int) (x2 : Option Addr) (x2n : Nat) (x2c : Nat) (x3 : Option Addr) (x3n : Nat) (x3c : Nat) (x4 : Nat) (x9 : Option Addr) (x10 : Option Addr) (x11 : Option Addr) (x11n : Nat) (x11c : Nat) (x12 : Option Addr) (x12n : Nat) (x12c : Nat) (x15 : Int) (x17 : Bool) (x18 : Bool) (x19 : Int) (M : AMem) : P3_83 L x1 x2 x2n x2c x3 x3n x3c x4 x9 x10 x11 x11n x11c x12 x12n x12c x15 x17 x18 x19 M =
  P3_49 L x1 x2 x2n x2c x3 x3n x3c x4 x9 x10 x11 x11n x11c x12 x12n x12c x15 x17 x18 (IntKind.wrap .i64 (x19 + 1)) M := by
  subst hP3_49; subst hP3_83; kernel_rfl
theorem P3_83_eq (L : Rec) (x1 : Int) (x2 : Option Addr) (x2n : Nat) (x2c : Nat) (x3 : Option Addr) (x3n : Nat) (x3c : Nat) (x4 : Nat) (x9 : Option Addr) (x10 : Option Addr) (x11 : Option Addr) (x11n : Nat) (x11c : Nat) (x12 : Option Addr) (x12n : Nat) (x12c : Nat) (x15 : Int) (x17 : Bool) (x18 : Bool) (x19 : Int) (M : AMem) : P3_83 L x1 x2 x2n x2c x3 x3n x3c x4 x9 x10 x11 x11n x11c x12 x12n x12c x15 x17 x18 x19 M =
  P3_49 L x1 x2 x2n x2c x3 x3n x3c x4 x9 x10 x11 x11n x11c x12 x12n x12c x15 x17 x18 (IntKind.wrap .i64 (x19 + 1)) M := QP3_83_eq L b3_49 c3_84 P3_49 (Classical.choose_spec XP3_49) P3_83 (Classical.choose_spec XP3_83) x1 x2 x2n x2c x3 x3n x3c x4 x9 x10 x11 x11n x11c x12 x12n x12c x15 x17 x18 x19 M
theorem QE3 (L : Rec) (c3_14 : ACode) (P3_14 : Rec → Int → (Option Addr) → Nat → Nat → (Option Addr) → Nat → Nat → Nat → (Option Addr) → (Option Addr) → AMem → Res) (hP3_14 : Eq P3_14 fun L x1 x2 x2n x2c x3 x3n x3c x4 x9 x10 M => code L c3_14 (retK [.tmp 8]) (s3_14 x1 x2 x2n x2c x3 x3n x3c x4 x9 x10 M) M) (x0_0 : Int) (x0_1 : Int) (x1 : Int) (x2 : Option Addr) (x2n : Nat) (x2c : Nat) (x3 : Option Addr) (x3n : Nat) (x3c : Nat) (M : AMem) : enterF L ⟨187, [.tmp 8], .seq (.ops o3_1) (.seq (.seq (.ops o3_4) (.cond (.tmp 45) (.seq (.ops o3_7) (.ret)) (.skip))) (.seq (.ops o3_11) (.seq (.ops o3_13) (.clear zl6 c3_14))))⟩ [.agg #[.int .i64 x0_0, .int .i64 x0_1], .int .u8 x1, .slice x2 x2n x2c, .slice x3 x3n x3c] M =
  (Option.bind (intOf? .i64 (AMem.ld (M ++ [AObj.cells [.int .i64 x0_0, .int .i64 x0_1] ⟨false, 0⟩]) (List.length M) 0)) fun x_1 =>
    (Option.bind (intOf? .i64 (AMem.ld (M ++ [AObj.cells [.int .i64 x0_0, .int .i64 x0_1] ⟨false, 0⟩]) (List.length M) 1)) fun x_2 =>
    (Option.bind (L.call 6 [.agg #[.int .i64 x_1, .int .i64 x_2]] []) fun r_3 =>
    (Option.bind (boolOf? (some r_3.1)) fun q_4 =>
    (if (!q_4) = true
    then (Option.bind (L.call 8 [] []) fun r_5 =>
      (Option.bind (boolOf? (some r_5.1)) fun q_6 =>
      some (.bool q_6, (M ++ [AObj.cells [.int .i64 x0_0, .int .i64 x0_1] ⟨false, 0⟩]))))
    else (Option.bind (intOf? .i64 (AMem.ld (M ++ [AObj.cells [.int .i64 x0_0, .int .i64 x0_1] ⟨false, 0⟩]) (List.length M) 0)) fun x_7 =>
      (if (decide (x_7 > 10)) = true
      then (Option.bind (L.call 8 [] []) fun r_8 =>
        (Option.bind (boolOf? (some r_8.1)) fun q_9 =>
        some (.bool q_9, (M ++ [AObj.cells [.int .i64 x0_0, .int .i64 x0_1] ⟨false, 0⟩]))))
      else (Option.bind (intOf? .i64 (AMem.ld (M ++ [AObj.cells [.int .i64 x0_0, .int .i64 x0_1] ⟨false, 0⟩]) (List.length M) 1)) fun x_10 =>
        (if (decide (x_10 > 4)) = true
        then (Option.bind (L.call 8 [] []) fun r_11 =>
          (Option.bind (boolOf? (some r_11.1)) fun q_12 =>
          some (.bool q_12, (M ++ [AObj.cells [.int .i64 x0_0, .int .i64 x0_1] ⟨false, 0⟩]))))
        else (Option.bind (L.call 7 [.slice x2 x2n x2c] (M ++ [AObj.cells [.int .i64 x0_0, .int .i64 x0_1] ⟨false, 0⟩])) fun r_13 =>
          (Option.bind (boolOf? (some r_13.1)) fun q_14 =>
          (if (!q_14) = true
          then (Option.bind (L.call 8 [] []) fun r_15 =>
            (Option.bind (boolOf? (some r_15.1)) fun q_16 =>
            some (.bool q_16, r_13.2)))
          else (if (decide ((Int.ofNat x3n) > 200)) = true
            then (Option.bind (L.call 8 [] []) fun r_17 =>
              (Option.bind (boolOf? (some r_17.1)) fun q_18 =>
              some (.bool q_18, r_13.2)))
            else (Option.bind (intOf? .i64 (AMem.ld r_13.2 (List.length M) 0)) fun x_19 =>
              (Option.bind (intOf? .i64 (AMem.ld r_13.2 (List.length M) 1)) fun x_20 =>
              (Option.bind (L.call 10 [.agg #[.int .i64 x_19, .int .i64 x_20]] []) fun r_21 =>
              (Option.bind (intOf? .i64 (some r_21.1)) fun x_22 =>
              (Option.bind (L.call 9 [.int .i64 x_22] r_13.2) fun r_23 =>
              (Option.bind (ptrOf? (some r_23.1)) fun p_24 =>
              (Option.bind (intOf? .i64 (AMem.ld r_23.2 (List.length M) 0)) fun x_25 =>
              (Option.bind (intOf? .i64 (AMem.ld r_23.2 (List.length M) 1)) fun x_26 =>
              (Option.bind (L.call 12 [.agg #[.int .i64 x_25, .int .i64 x_26]] []) fun r_27 =>
              (Option.bind (aggOf? 2 r_27.1) fun cs_28 =>
              (Option.bind (intOf? .i64 (cs_28[0]?)) fun x_29 =>
              (Option.bind (intOf? .i64 (cs_28[1]?)) fun x_30 =>
              (Option.bind (L.call 11 [.agg #[.int .i64 x_29, .int .i64 x_30], .int .i64 (IntKind.wrap .i64 (1 + (Int.tmod (IntKind.wrap .i64 x1) 20)))] r_23.2) fun r_31 =>
              (Option.bind (ptrOf? (some r_31.1)) fun p_32 =>
              P3_14 L x1 x2 x2n x2c x3 x3n x3c (List.length M) p_24 p_32 r_31.2))))))))))))))))))))))))))) := by
  subst hP3_14; kernel_rfl
theorem E3 (L : Rec) (x0_0 : Int) (x0_1 : Int) (x1 : Int) (x2 : Option Addr) (x2n : Nat) (x2c : Nat) (x3 : Option Addr) (x3n : Nat) (x3c : Nat) (M : AMem) : enterF L a3 [.agg #[.int .i64 x0_0, .int .i64 x0_1], .int .u8 x1, .slice x2 x2n x2c, .slice x3 x3n x3c] M =
  (Option.bind (intOf? .i64 (AMem.ld (M ++ [AObj.cells [.int .i64 x0_0, .int .i64 x0_1] ⟨false, 0⟩]) (List.length M) 0)) fun x_1 =>
    (Option.bind (intOf? .i64 (AMem.ld (M ++ [AObj.cells [.int .i64 x0_0, .int .i64 x0_1] ⟨false, 0⟩]) (List.length M) 1)) fun x_2 =>
    (Option.bind (L.call 6 [.agg #[.int .i64 x_1, .int .i64 x_2]] []) fun r_3 =>
    (Option.bind (boolOf? (some r_3.1)) fun q_4 =>
    (if (!q_4) = true
    then (Option.bind (L.call 8 [] []) fun r_5 =>
      (Option.bind (boolOf? (some r_5.1)) fun q_6 =>
      some (.bool q_6, (M ++ [AObj.cells [.int .i64 x0_0, .int .i64 x0_1] ⟨false, 0⟩]))))
    else (Option.bind (intOf? .i64 (AMem.ld (M ++ [AObj.cells [.int .i64 x0_0, .int .i64 x0_1] ⟨false, 0⟩]) (List.length M) 0)) fun x_7 =>
      (if (decide (x_7 > 10)) = true
      then (Option.bind (L.call 8 [] []) fun r_8 =>
        (Option.bind (boolOf? (some r_8.1)) fun q_9 =>
        some (.bool q_9, (M ++ [AObj.cells [.int .i64 x0_0, .int .i64 x0_1] ⟨false, 0⟩]))))
      else (Option.bind (intOf? .i64 (AMem.ld (M ++ [AObj.cells [.int .i64 x0_0, .int .i64 x0_1] ⟨false, 0⟩]) (List.length M) 1)) fun x_10 =>
        (if (decide (x_10 > 4)) = true
        then (Option.bind (L.call 8 [] []) fun r_11 =>
          (Option.bind (boolOf? (some r_11.1)) fun q_12 =>
          some (.bool q_12, (M ++ [AObj.cells [.int .i64 x0_0, .int .i64 x0_1] ⟨false, 0⟩]))))
        else (Option.bind (L.call 7 [.slice x2 x2n x2c] (M ++ [AObj.cells [.int .i64 x0_0, .int .i64 x0_1] ⟨false, 0⟩])) fun r_13 =>
          (Option.bind (boolOf? (some r_13.1)) fun q_14 =>
          (if (!q_14) = true
          then (Option.bind (L.call 8 [] []) fun r_15 =>
            (Option.bind (boolOf? (some r_15.1)) fun q_16 =>
            some (.bool q_16, r_13.2)))
          else (if (decide ((Int.ofNat x3n) > 200)) = true
            then (Option.bind (L.call 8 [] []) fun r_17 =>
              (Option.bind (boolOf? (some r_17.1)) fun q_18 =>
              some (.bool q_18, r_13.2)))
            else (Option.bind (intOf? .i64 (AMem.ld r_13.2 (List.length M) 0)) fun x_19 =>
              (Option.bind (intOf? .i64 (AMem.ld r_13.2 (List.length M) 1)) fun x_20 =>
              (Option.bind (L.call 10 [.agg #[.int .i64 x_19, .int .i64 x_20]] []) fun r_21 =>
              (Option.bind (intOf? .i64 (some r_21.1)) fun x_22 =>
              (Option.bind (L.call 9 [.int .i64 x_22] r_13.2) fun r_23 =>
              (Option.bind (ptrOf? (some r_23.1)) fun p_24 =>
              (Option.bind (intOf? .i64 (AMem.ld r_23.2 (List.length M) 0)) fun x_25 =>
              (Option.bind (intOf? .i64 (AMem.ld r_23.2 (List.length M) 1)) fun x_26 =>
              (Option.bind (L.call 12 [.agg #[.int .i64 x_25, .int .i64 x_26]] []) fun r_27 =>
              (Option.bind (aggOf? 2 r_27.1) fun cs_28 =>
              (Option.bind (intOf? .i64 (cs_28[0]?)) fun x_29 =>
              (Option.bind (intOf? .i64 (cs_28[1]?)) fun x_30 =>
              (Option.bind (L.call 11 [.agg #[.int .i64 x_29, .int .i64 x_30], .int .i64 (IntKind.wrap .i64 (1 + (Int.tmod (IntKind.wrap .i64 x1) 20)))] r_23.2) fun r_31 =>
              (Option.bind (ptrOf? (some r_31.1)) fun p_32 =>
              P3_14 L x1 x2 x2n x2c x3 x3n x3c (List.length M) p_24 p_32 r_31.2))))))))))))))))))))))))))) := QE3 L c3_14 P3_14 (Classical.choose_spec XP3_14) x0_0 x0_1 x1 x2 x2n x2c x3 x3n x3c M
end Go.Proofs.Ytpnknolehckfhaa
