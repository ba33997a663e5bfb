/- What the pieces of some functions come to. -/
import Derived.Test.YtpnknolehckfhaaCode
set_option linter.unusedVariables false
set_option maxRecDepth 100000
namespace Go.Proofs.Ytpnknolehckfhaa
open Go Go.Ax
/-! #### skylightlaw34.PeekStill -/
noncomputable def k5_18 (L : Rec) : KT := blockK 0 (seqK (code L (.clear zl24 c5_54) (retK [.tmp 8])) (retK [.tmp 8]))
def s5_18 (x1 : Int) (x2 : Option Addr) (x2n : Nat) (x2c : Nat) (x3 : Int) (x4 : Nat) (x9 : Option Addr) (x10 : Bool) (x11 : Int) (M : AMem) : List Value := [junk, .int .u8 x1, .slice x2 x2n x2c, .int .u8 x3, .pointer (some ⟨x4, 0, none⟩), junk, junk, junk, junk, .pointer x9, .bool x10, .int .i64 x11, junk, junk, junk, junk, junk, junk, junk, junk, junk, junk, junk, junk, junk, junk, junk, junk, junk, junk, junk, junk, junk, junk, junk, junk, junk, junk, junk, junk, junk, junk, junk, junk, junk, junk, junk, junk, junk, junk, junk, junk, junk, junk, junk, junk, junk, junk, junk, junk, junk, junk, junk, junk, junk, junk, junk, junk, junk, junk, junk, junk, junk, junk, junk, junk, junk, junk, junk, junk, junk, junk, junk, junk, junk, junk, junk, junk, junk, junk, junk, junk, junk, junk, junk, junk, junk, junk, junk, junk, junk, junk, junk, junk, junk, junk, junk, junk, junk, junk, junk, junk, junk, junk, junk, junk, junk, junk, junk, junk, junk, junk, junk, junk, junk, junk, junk, junk, junk, junk, junk, junk, junk, junk, junk, junk, junk, junk, junk, junk, junk, junk, junk, junk, junk, junk, junk, junk, junk, junk, junk, junk, junk, junk, junk, junk]
theorem XP5_18 : ∃ P : Rec → Int → (Option Addr) → Nat → Nat → Int → Nat → (Option Addr) → Bool → Int → AMem → Res, P = fun (L : Rec) (x1 : Int) (x2 : Option Addr) (x2n : Nat) (x2c : Nat) (x3 : Int) (x4 : Nat) (x9 : Option Addr) (x10 : Bool) (x11 : Int) (M : AMem) => L.loop b5_18 (k5_18 L) (s5_18 x1 x2 x2n x2c x3 x4 x9 x10 x11 M) M := ⟨_, rfl⟩
noncomputable def P5_18 : Rec → Int → (Option Addr) → Nat → Nat → Int → Nat → (Option Addr) → Bool → Int → AMem → Res := Classical.choose XP5_18
noncomputable def k5_29 (L : Rec) : KT := blockK 1 (seqK (code L (.clear zl22 c5_53) (postK zl22 (loopK L b5_18 (blockK 0 (seqK (code L (.clear zl24 c5_54) (retK [.tmp 8])) (retK [.tmp 8])))))) (postK zl22 (loopK L b5_18 (blockK 0 (seqK (code L (.clear zl24 c5_54) (retK [.tmp 8])) (retK [.tmp 8]))))))
def s5_29 (x1 : Int) (x2 : Option Addr) (x2n : Nat) (x2c : Nat) (x3 : Int) (x4 : Nat) (x9 : Option Addr) (x10 : Bool) (x11 : Int) (x12 : Option Addr) (M : AMem) : List Value := [junk, .int .u8 x1, .slice x2 x2n x2c, .int .u8 x3, .pointer (some ⟨x4, 0, none⟩), junk, junk, junk, junk, .pointer x9, .bool x10, .int .i64 x11, .pointer x12, junk, junk, junk, junk, junk, junk, junk, junk, junk, junk, junk, junk, junk, junk, junk, junk, junk, junk, junk, junk, junk, junk, junk, junk, junk, junk, junk, junk, junk, junk, junk, junk, junk, junk, junk, junk, junk, junk, junk, junk, junk, junk, junk, junk, junk, junk, junk, junk, junk, junk, junk, junk, junk, junk, junk, junk, junk, junk, junk, junk, junk, junk, junk, junk, junk, junk, junk, junk, junk, junk, junk, junk, junk, junk, junk, junk, junk, junk, junk, junk, junk, junk, junk, junk, junk, junk, junk, junk, junk, junk, junk, junk, junk, junk, junk, junk, junk, junk, junk, junk, junk, junk, junk, junk, junk, junk, junk, junk, junk, junk, junk, junk, junk, junk, junk, junk, junk, junk, junk, junk, junk, junk, junk, junk, junk, junk, junk, junk, junk, junk, junk, junk, junk, junk, junk, junk, junk, junk, junk, junk, junk, junk, junk]
theorem XP5_29 : ∃ P : Rec → Int → (Option Addr) → Nat → Nat → Int → Nat → (Option Addr) → Bool → Int → (Option Addr) → AMem → Res, P = fun (L : Rec) (x1 : Int) (x2 : Option Addr) (x2n : Nat) (x2c : Nat) (x3 : Int) (x4 : Nat) (x9 : Option Addr) (x10 : Bool) (x11 : Int) (x12 : Option Addr) (M : AMem) => code L c5_29 (k5_29 L) (s5_29 x1 x2 x2n x2c x3 x4 x9 x10 x11 x12 M) M := ⟨_, rfl⟩
noncomputable def P5_29 : Rec → Int → (Option Addr) → Nat → Nat → Int → Nat → (Option Addr) → Bool → Int → (Option Addr) → AMem → Res := Classical.choose XP5_29
noncomputable def k5_54 (L : Rec) : KT := retK [.tmp 8]
def s5_54 (x1 : Int) (x4 : Nat) (x9 : Option Addr) (x10 : Bool) (M : AMem) : List Value := [junk, .int .u8 x1, junk, junk, .pointer (some ⟨x4, 0, none⟩), junk, junk, junk, junk, .pointer x9, .bool x10, junk, junk, junk, junk, junk, junk, junk, junk, junk, junk, junk, junk, junk, junk, junk, junk, junk, junk, junk, junk, junk, junk, junk, junk, junk, junk, junk, junk, junk, junk, junk, junk, junk, junk, junk, junk, junk, junk, junk, junk, junk, junk, junk, junk, junk, junk, junk, junk, junk, junk, junk, junk, junk, junk, junk, junk, junk, junk, junk, junk, junk, junk, junk, junk, junk, junk, junk, junk, junk, junk, junk, junk, junk, junk, junk, junk, junk, junk, junk, junk, junk, junk, junk, junk, junk, junk, junk, junk, junk, junk, junk, junk, junk, junk, junk, junk, junk, junk, junk, junk, junk, junk, junk, junk, junk, junk, junk, junk, junk, junk, junk, junk, junk, junk, junk, junk, junk, junk, junk, junk, junk, junk, junk, junk, junk, junk, junk, junk, junk, junk, junk, junk, junk, junk, junk, junk, junk, junk, junk, junk, junk, junk, junk, junk, junk]
theorem XP5_54 : ∃ P : Rec → Int → Nat → (Option Addr) → Bool → AMem → Res, P = fun (L : Rec) (x1 : Int) (x4 : Nat) (x9 : Option Addr) (x10 : Bool) (M : AMem) => code L c5_54 (k5_54 L) (s5_54 x1 x4 x9 x10 M) M := ⟨_, rfl⟩
noncomputable def P5_54 : Rec → Int → Nat → (Option Addr) → Bool → AMem → Res := Classical.choose XP5_54
noncomputable def k5_37 (L : Rec) : KT := blockK 1 (seqK (code L (.clear zl22 c5_53) (postK zl22 (loopK L b5_18 (blockK 0 (seqK (code L (.clear zl24 c5_54) (retK [.tmp 8])) (retK [.tmp 8])))))) (postK zl22 (loopK L b5_18 (blockK 0 (seqK (code L (.clear zl24 c5_54) (retK [.tmp 8])) (retK [.tmp 8]))))))
def s5_37 (x1 : Int) (x2 : Option Addr) (x2n : Nat) (x2c : Nat) (x3 : Int) (x4 : Nat) (x9 : Option Addr) (x10 : Bool) (x11 : Int) (x12 : Option Addr) (x13 : Int) (M : AMem) : List Value := [junk, .int .u8 x1, .slice x2 x2n x2c, .int .u8 x3, .pointer (some ⟨x4, 0, none⟩), junk, junk, junk, junk, .pointer x9, .bool x10, .int .i64 x11, .pointer x12, .int .i64 x13, junk, junk, junk, junk, junk, junk, junk, junk, junk, junk, junk, junk, junk, junk, junk, junk, junk, junk, junk, junk, junk, junk, junk, junk, junk, junk, junk, junk, junk, junk, junk, junk, junk, junk, junk, junk, junk, junk, junk, junk, junk, junk, junk, junk, junk, junk, junk, junk, junk, junk, junk, junk, junk, junk, junk, junk, junk, junk, junk, junk, junk, junk, junk, junk, junk, junk, junk, junk, junk, junk, junk, junk, junk, junk, junk, junk, junk, junk, junk, junk, junk, junk, junk, junk, junk, junk, junk, junk, junk, junk, junk, junk, junk, junk, junk, junk, junk, junk, junk, junk, junk, junk, junk, junk, junk, junk, junk, junk, junk, junk, junk, junk, junk, junk, junk, junk, junk, junk, junk, junk, junk, junk, junk, junk, junk, junk, junk, junk, junk, junk, junk, junk, junk, junk, junk, junk, junk, junk, junk, junk, junk, junk]
theorem XP5_37 : ∃ P : Rec → Int → (Option Addr) → Nat → Nat → Int → Nat → (Option Addr) → Bool → Int → (Option Addr) → Int → AMem → Res, P = fun (L : Rec) (x1 : Int) (x2 : Option Addr) (x2n : Nat) (x2c : Nat) (x3 : Int) (x4 : Nat) (x9 : Option Addr) (x10 : Bool) (x11 : Int) (x12 : Option Addr) (x13 : Int) (M : AMem) => code L c5_37 (k5_37 L) (s5_37 x1 x2 x2n x2c x3 x4 x9 x10 x11 x12 x13 M) M := ⟨_, rfl⟩
noncomputable def P5_37 : Rec → Int → (Option Addr) → Nat → Nat → Int → Nat → (Option Addr) → Bool → Int → (Option Addr) → Int → AMem → Res := Classical.choose XP5_37
noncomputable def k5_62 (L : Rec) : KT := blockK 4 (seqK (code L (.clear zl23 c5_71) (retK [.tmp 8])) (retK [.tmp 8]))
def s5_62 (x4 : Nat) (x9 : Option Addr) (x10 : Bool) (x15 : Int) (x16 : Option Addr) (x17 : Int) (M : AMem) : List Value := [junk, junk, junk, junk, .pointer (some ⟨x4, 0, none⟩), junk, junk, junk, junk, .pointer x9, .bool x10, junk, junk, junk, junk, .int .i64 x15, .pointer x16, .int .i64 x17, junk, junk, junk, junk, junk, junk, junk, junk, junk, junk, junk, junk, junk, junk, junk, junk, junk, junk, junk, junk, junk, junk, junk, junk, junk, junk, junk, junk, junk, junk, junk, junk, junk, junk, junk, junk, junk, junk, junk, junk, junk, junk, junk, junk, junk, junk, junk, junk, junk, junk, junk, junk, junk, junk, junk, junk, junk, junk, junk, junk, junk, junk, junk, junk, junk, junk, junk, junk, junk, junk, junk, junk, junk, junk, junk, junk, junk, junk, junk, junk, junk, junk, junk, junk, junk, junk, junk, junk, junk, junk, junk, junk, junk, junk, junk, junk, junk, junk, junk, junk, junk, junk, junk, junk, junk, junk, junk, junk, junk, junk, junk, junk, junk, junk, junk, junk, junk, junk, junk, junk, junk, junk, junk, junk, junk, junk, junk, junk, junk, junk, junk, junk, junk, junk, junk, junk, junk, junk]
theorem XP5_62 : ∃ P : Rec → Nat → (Option Addr) → Bool → Int → (Option Addr) → Int → AMem → Res, P = fun (L : Rec) (x4 : Nat) (x9 : Option Addr) (x10 : Bool) (x15 : Int) (x16 : Option Addr) (x17 : Int) (M : AMem) => L.loop b5_62 (k5_62 L) (s5_62 x4 x9 x10 x15 x16 x17 M) M := ⟨_, rfl⟩
noncomputable def P5_62 : Rec → Nat → (Option Addr) → Bool → Int → (Option Addr) → Int → AMem → Res := Classical.choose XP5_62
noncomputable def k5_41 (L : Rec) : KT := blockK 2 (seqK (code L (.clear zl20 c5_52) (blockK 1 (seqK (code L (.clear zl22 c5_53) (postK zl22 (loopK L b5_18 (blockK 0 (seqK (code L (.clear zl24 c5_54) (retK [.tmp 8])) (retK [.tmp 8])))))) (postK zl22 (loopK L b5_18 (blockK 0 (seqK (code L (.clear zl24 c5_54) (retK [.tmp 8])) (retK [.tmp 8])))))))) (blockK 1 (seqK (code L (.clear zl22 c5_53) (postK zl22 (loopK L b5_18 (blockK 0 (seqK (code L (.clear zl24 c5_54) (retK [.tmp 8])) (retK [.tmp 8])))))) (postK zl22 (loopK L b5_18 (blockK 0 (seqK (code L (.clear zl24 c5_54) (retK [.tmp 8])) (retK [.tmp 8]))))))))
def s5_41 (x1 : Int) (x2 : Option Addr) (x2n : Nat) (x2c : Nat) (x3 : Int) (x4 : Nat) (x9 : Option Addr) (x10 : Bool) (x11 : Int) (x12 : Option Addr) (x13 : Int) (x14 : Int) (M : AMem) : List Value := [junk, .int .u8 x1, .slice x2 x2n x2c, .int .u8 x3, .pointer (some ⟨x4, 0, none⟩), junk, junk, junk, junk, .pointer x9, .bool x10, .int .i64 x11, .pointer x12, .int .i64 x13, .int .i64 x14, junk, junk, junk, junk, junk, junk, junk, junk, junk, junk, junk, junk, junk, junk, junk, junk, junk, junk, junk, junk, junk, junk, junk, junk, junk, junk, junk, junk, junk, junk, junk, junk, junk, junk, junk, junk, junk, junk, junk, junk, junk, junk, junk, junk, junk, junk, junk, junk, junk, junk, junk, junk, junk, junk, junk, junk, junk, junk, junk, junk, junk, junk, junk, junk, junk, junk, junk, junk, junk, junk, junk, junk, junk, junk, junk, junk, junk, junk, junk, junk, junk, junk, junk, junk, junk, junk, junk, junk, junk, junk, junk, junk, junk, junk, junk, junk, junk, junk, junk, junk, junk, junk, junk, junk, junk, junk, junk, junk, junk, junk, junk, junk, junk, junk, junk, junk, junk, junk, junk, junk, junk, junk, junk, junk, junk, junk, junk, junk, junk, junk, junk, junk, junk, junk, junk, junk, junk, junk, junk, junk, junk]
theorem XP5_41 : ∃ P : Rec → Int → (Option Addr) → Nat → Nat → Int → Nat → (Option Addr) → Bool → Int → (Option Addr) → Int → Int → AMem → Res, P = fun (L : Rec) (x1 : Int) (x2 : Option Addr) (x2n : Nat) (x2c : Nat) (x3 : Int) (x4 : Nat) (x9 : Option Addr) (x10 : Bool) (x11 : Int) (x12 : Option Addr) (x13 : Int) (x14 : Int) (M : AMem) => L.loop b5_41 (k5_41 L) (s5_41 x1 x2 x2n x2c x3 x4 x9 x10 x11 x12 x13 x14 M) M := ⟨_, rfl⟩
noncomputable def P5_41 : Rec → Int → (Option Addr) → Nat → Nat → Int → Nat → (Option Addr) → Bool → Int → (Option Addr) → Int → Int → AMem → Res := Classical.choose XP5_41
noncomputable def k5_71 (L : Rec) : KT := retK [.tmp 8]
def s5_71 (x4 : Nat) (x9 : Option Addr) (x10 : Bool) (x15 : Int) (x16 : Option Addr) (x17 : Int) (M : AMem) : List Value := [junk, junk, junk, junk, .pointer (some ⟨x4, 0, none⟩), junk, junk, junk, junk, .pointer x9, .bool x10, junk, junk, junk, junk, .int .i64 x15, .pointer x16, .int .i64 x17, junk, junk, junk, junk, junk, junk, junk, junk, junk, junk, junk, junk, junk, junk, junk, junk, junk, junk, junk, junk, junk, junk, junk, junk, junk, junk, junk, junk, junk, junk, junk, junk, junk, junk, junk, junk, junk, junk, junk, junk, junk, junk, junk, junk, junk, junk, junk, junk, junk, junk, junk, junk, junk, junk, junk, junk, junk, junk, junk, junk, junk, junk, junk, junk, junk, junk, junk, junk, junk, junk, junk, junk, junk, junk, junk, junk, junk, junk, junk, junk, junk, junk, junk, junk, junk, junk, junk, junk, junk, junk, junk, junk, junk, junk, junk, junk, junk, junk, junk, junk, junk, junk, junk, junk, junk, junk, junk, junk, junk, junk, junk, junk, junk, junk, junk, junk, junk, junk, junk, junk, junk, junk, junk, junk, junk, junk, junk, junk, junk, junk, junk, junk, junk, junk, junk, junk, junk, junk]
theorem XP5_71 : ∃ P : Rec → Nat → (Option Addr) → Bool → Int → (Option Addr) → Int → AMem → Res, P = fun (L : Rec) (x4 : Nat) (x9 : Option Addr) (x10 : Bool) (x15 : Int) (x16 : Option Addr) (x17 : Int) (M : AMem) => code L c5_71 (k5_71 L) (s5_71 x4 x9 x10 x15 x16 x17 M) M := ⟨_, rfl⟩
noncomputable def P5_71 : Rec → Nat → (Option Addr) → Bool → Int → (Option Addr) → Int → AMem → Res := Classical.choose XP5_71
noncomputable def k5_51 (L : Rec) : KT := postK zl19 (loopK L b5_41 (blockK 2 (seqK (code L (.clear zl20 c5_52) (blockK 1 (seqK (code L (.clear zl22 c5_53) (postK zl22 (loopK L b5_18 (blockK 0 (seqK (code L (.clear zl24 c5_54) (retK [.tmp 8])) (retK [.tmp 8])))))) (postK zl22 (loopK L b5_18 (blockK 0 (seqK (code L (.clear zl24 c5_54) (retK [.tmp 8])) (retK [.tmp 8])))))))) (blockK 1 (seqK (code L (.clear zl22 c5_53) (postK zl22 (loopK L b5_18 (blockK 0 (seqK (code L (.clear zl24 c5_54) (retK [.tmp 8])) (retK [.tmp 8])))))) (postK zl22 (loopK L b5_18 (blockK 0 (seqK (code L (.clear zl24 c5_54) (retK [.tmp 8])) (retK [.tmp 8]))))))))))
def s5_51 (x1 : Int) (x2 : Option Addr) (x2n : Nat) (x2c : Nat) (x3 : Int) (x4 : Nat) (x9 : Option Addr) (x10 : Bool) (x11 : Int) (x12 : Option Addr) (x13 : Int) (x14 : Int) (M : AMem) : List Value := [junk, .int .u8 x1, .slice x2 x2n x2c, .int .u8 x3, .pointer (some ⟨x4, 0, none⟩), junk, junk, junk, junk, .pointer x9, .bool x10, .int .i64 x11, .pointer x12, .int .i64 x13, .int .i64 x14, junk, junk, junk, junk, junk, junk, junk, junk, junk, junk, junk, junk, junk, junk, junk, junk, junk, junk, junk, junk, junk, junk, junk, junk, junk, junk, junk, junk, junk, junk, junk, junk, junk, junk, junk, junk, junk, junk, junk, junk, junk, junk, junk, junk, junk, junk, junk, junk, junk, junk, junk, junk, junk, junk, junk, junk, junk, junk, junk, junk, junk, junk, junk, junk, junk, junk, junk, junk, junk, junk, junk, junk, junk, junk, junk, junk, junk, junk, junk, junk, junk, junk, junk, junk, junk, junk, junk, junk, junk, junk, junk, junk, junk, junk, junk, junk, junk, junk, junk, junk, junk, junk, junk, junk, junk, junk, junk, junk, junk, junk, junk, junk, junk, junk, junk, junk, junk, junk, junk, junk, junk, junk, junk, junk, junk, junk, junk, junk, junk, junk, junk, junk, junk, junk, junk, junk, junk, junk, junk, junk, junk]
theorem XP5_51 : ∃ P : Rec → Int → (Option Addr) → Nat → Nat → Int → Nat → (Option Addr) → Bool → Int → (Option Addr) → Int → Int → AMem → Res, P = fun (L : Rec) (x1 : Int) (x2 : Option Addr) (x2n : Nat) (x2c : Nat) (x3 : Int) (x4 : Nat) (x9 : Option Addr) (x10 : Bool) (x11 : Int) (x12 : Option Addr) (x13 : Int) (x14 : Int) (M : AMem) => code L c5_51 (k5_51 L) (s5_51 x1 x2 x2n x2c x3 x4 x9 x10 x11 x12 x13 x14 M) M := ⟨_, rfl⟩
noncomputable def P5_51 : Rec → Int → (Option Addr) → Nat → Nat → Int → Nat → (Option Addr) → Bool → Int → (Option Addr) → Int → Int → AMem → Res := Classical.choose XP5_51
noncomputable def k5_52 (L : Rec) : KT := blockK 1 (seqK (code L (.clear zl22 c5_53) (postK zl22 (loopK L b5_18 (blockK 0 (seqK (code L (.clear zl24 c5_54) (retK [.tmp 8])) (retK [.tmp 8])))))) (postK zl22 (loopK L b5_18 (blockK 0 (seqK (code L (.clear zl24 c5_54) (retK [.tmp 8])) (retK [.tmp 8]))))))
def s5_52 (x1 : Int) (x2 : Option Addr) (x2n : Nat) (x2c : Nat) (x3 : Int) (x4 : Nat) (x9 : Option Addr) (x10 : Bool) (x11 : Int) (x12 : Option Addr) (M : AMem) : List Value := [junk, .int .u8 x1, .slice x2 x2n x2c, .int .u8 x3, .pointer (some ⟨x4, 0, none⟩), junk, junk, junk, junk, .pointer x9, .bool x10, .int .i64 x11, .pointer x12, junk, junk, junk, junk, junk, junk, junk, junk, junk, junk, junk, junk, junk, junk, junk, junk, junk, junk, junk, junk, junk, junk, junk, junk, junk, junk, junk, junk, junk, junk, junk, junk, junk, junk, junk, junk, junk, junk, junk, junk, junk, junk, junk, junk, junk, junk, junk, junk, junk, junk, junk, junk, junk, junk, junk, junk, junk, junk, junk, junk, junk, junk, junk, junk, junk, junk, junk, junk, junk, junk, junk, junk, junk, junk, junk, junk, junk, junk, junk, junk, junk, junk, junk, junk, junk, junk, junk, junk, junk, junk, junk, junk, junk, junk, junk, junk, junk, junk, junk, junk, junk, junk, junk, junk, junk, junk, junk, junk, junk, junk, junk, junk, junk, junk, junk, junk, junk, junk, junk, junk, junk, junk, junk, junk, junk, junk, junk, junk, junk, junk, junk, junk, junk, junk, junk, junk, junk, junk, junk, junk, junk, junk, junk]
theorem XP5_52 : ∃ P : Rec → Int → (Option Addr) → Nat → Nat → Int → Nat → (Option Addr) → Bool → Int → (Option Addr) → AMem → Res, P = fun (L : Rec) (x1 : Int) (x2 : Option Addr) (x2n : Nat) (x2c : Nat) (x3 : Int) (x4 : Nat) (x9 : Option Addr) (x10 : Bool) (x11 : Int) (x12 : Option Addr) (M : AMem) => code L c5_52 (k5_52 L) (s5_52 x1 x2 x2n x2c x3 x4 x9 x10 x11 x12 M) M := ⟨_, rfl⟩
noncomputable def P5_52 : Rec → Int → (Option Addr) → Nat → Nat → Int → Nat → (Option Addr) → Bool → Int → (Option Addr) → AMem → Res := Classical.choose XP5_52
noncomputable def k5_53 (L : Rec) : KT := postK zl22 (loopK L b5_18 (blockK 0 (seqK (code L (.clear zl24 c5_54) (retK [.tmp 8])) (retK [.tmp 8]))))
def s5_53 (x1 : Int) (x2 : Option Addr) (x2n : Nat) (x2c : Nat) (x3 : Int) (x4 : Nat) (x9 : Option Addr) (x10 : Bool) (x11 : Int) (M : AMem) : List Value := [junk, .int .u8 x1, .slice x2 x2n x2c, .int .u8 x3, .pointer (some ⟨x4, 0, none⟩), junk, junk, junk, junk, .pointer x9, .bool x10, .int .i64 x11, junk, junk, junk, junk, junk, junk, junk, junk, junk, junk, junk, junk, junk, junk, junk, junk, junk, junk, junk, junk, junk, junk, junk, junk, junk, junk, junk, junk, junk, junk, junk, junk, junk, junk, junk, junk, junk, junk, junk, junk, junk, junk, junk, junk, junk, junk, junk, junk, junk, junk, junk, junk, junk, junk, junk, junk, junk, junk, junk, junk, junk, junk, junk, junk, junk, junk, junk, junk, junk, junk, junk, junk, junk, junk, junk, junk, junk, junk, junk, junk, junk, junk, junk, junk, junk, junk, junk, junk, junk, junk, junk, junk, junk, junk, junk, junk, junk, junk, junk, junk, junk, junk, junk, junk, junk, junk, junk, junk, junk, junk, junk, junk, junk, junk, junk, junk, junk, junk, junk, junk, junk, junk, junk, junk, junk, junk, junk, junk, junk, junk, junk, junk, junk, junk, junk, junk, junk, junk, junk, junk, junk, junk, junk, junk]
theorem XP5_53 : ∃ P : Rec → Int → (Option Addr) → Nat → Nat → Int → Nat → (Option Addr) → Bool → Int → AMem → Res, P = fun (L : Rec) (x1 : Int) (x2 : Option Addr) (x2n : Nat) (x2c : Nat) (x3 : Int) (x4 : Nat) (x9 : Option Addr) (x10 : Bool) (x11 : Int) (M : AMem) => code L c5_53 (k5_53 L) (s5_53 x1 x2 x2n x2c x3 x4 x9 x10 x11 M) M := ⟨_, rfl⟩
noncomputable def P5_53 : Rec → Int → (Option Addr) → Nat → Nat → Int → Nat → (Option Addr) → Bool → Int → AMem → Res := Classical.choose XP5_53
theorem QP5_18_eq (L : Rec) (b5_18 c5_29 c5_53 c5_54 : ACode) (hb : ∀ K t A, L.loop b5_18 K t A = code L (.post (.seq (.seq (.ops o5_21) (.cond (.tmp 45) (.skip) (.exit 0))) (.seq (.block 1 (.seq (.draw [] 0 o5_28 [(6, 12)]) (.clear zl20 c5_29))) (.clear zl22 c5_53))) zl22) (loopK L b5_18 K) t A) (P5_18 : Rec → Int → (Option Addr) → Nat → Nat → Int → Nat → (Option Addr) → Bool → Int → AMem → Res) (hP5_18 : Eq P5_18 fun L x1 x2 x2n x2c x3 x4 x9 x10 x11 M => L.loop b5_18 (blockK 0 (seqK (code L (.clear zl24 c5_54) (retK [.tmp 8])) (retK [.tmp 8]))) (s5_18 x1 x2 x2n x2c x3 x4 x9 x10 x11 M) M) (P5_29 : Rec → Int → (Option Addr) → Nat → Nat → Int → Nat → (Option Addr) → Bool → Int → (Option Addr) → AMem → Res) (hP5_29 : Eq P5_29 fun L x1 x2 x2n x2c x3 x4 x9 x10 x11 x12 M => code L c5_29 (blockK 1 (seqK (code L (.clear zl22 c5_53) (postK zl22 (loopK L b5_18 (blockK 0 (seqK (code L (.clear zl24 c5_54) (retK [.tmp 8])) (retK [.tmp 8])))))) (postK zl22 (loopK L b5_18 (blockK 0 (seqK (code L (.clear zl24 c5_54) (retK [.tmp 8])) (retK [.tmp 8]))))))) (s5_29 x1 x2 x2n x2c x3 x4 x9 x10 x11 x12 M) M) (P5_54 : Rec → Int → Nat → (Option Addr) → Bool → AMem → Res) (hP5_54 : Eq P5_54 fun L x1 x4 x9 x10 M => code L c5_54 (retK [.tmp 8]) (s5_54 x1 x4 x9 x10 M) M) (x1 : Int) (x2 : Option Addr) (x2n : Nat) (x2c : Nat) (x3 : Int) (x4 : Nat) (x9 : Option Addr) (x10 : Bool) (x11 : Int) (M : AMem) : P5_18 L x1 x2 x2n x2c x3 x4 x9 x10 x11 M =
  (if (decide (x11 < (Int.ofNat x2n))) = true
    then (Option.bind (intOf? .i64 (AMem.ld M x4 0)) fun x_1 =>
      (Option.bind (intOf? .i64 (AMem.ld M x4 1)) fun x_2 =>
      (Option.bind (L.call 12 [.agg #[.int .i64 x_1, .int .i64 x_2]] []) fun r_3 =>
      (Option.bind (aggOf? 2 r_3.1) fun cs_4 =>
      (Option.bind (intOf? .i64 (cs_4[0]?)) fun x_5 =>
      (Option.bind (intOf? .i64 (cs_4[1]?)) fun x_6 =>
      (match x2 with
      | some a_7 => (if (0 : Int) ≤ x11 ∧ x11 < (Int.ofNat x2n)
        then (Option.bind (intOf? .i64 (AMem.ld M a_7.block (a_7.off + ((Int.toNat x11) * 2)))) fun x_8 =>
          (match x2 with
          | some a_9 => (if (0 : Int) ≤ x11 ∧ x11 < (Int.ofNat x2n)
            then (Option.bind (sliceOf? (AMem.ld M a_9.block ((a_9.off + ((Int.toNat x11) * 2)) + 1))) fun s_10 =>
              (Option.bind (L.call 14 [.slice s_10.1 s_10.2.1 s_10.2.2] M) fun r_11 =>
              (Option.bind (sliceOf? (some r_11.1)) fun s_12 =>
              (Option.bind (L.call 13 [.agg #[.int .i64 x_5, .int .i64 x_6], .int .i64 x_8, .slice s_12.1 s_12.2.1 s_12.2.2] r_11.2) fun r_13 =>
              (Option.bind (ptrOf? (some r_13.1)) fun p_14 =>
              (if chkOk [(6, 12)] [(6, a_7.block)] [(12, (M, r_11.2))] = true
              then P5_29 L x1 x2 x2n x2c x3 x4 x9 x10 x11 p_14 r_13.2
              else none))))))
            else none)
          | none => none))
        else none)
      | none => none)))))))
    else P5_54 L x1 x4 x9 x10 M) := by
  subst hP5_18; subst hP5_29; subst hP5_54; exact (hb (blockK 0 (seqK (code L (.clear zl24 c5_54) (retK [.tmp 8])) (retK [.tmp 8]))) (s5_18 x1 x2 x2n x2c x3 x4 x9 x10 x11 M) M).trans (by kernel_rfl)
theorem P5_18_eq (L : Rec) (hL : ∀ b K t A, L.loop b K t A = code L b (loopK L b K) t A) (x1 : Int) (x2 : Option Addr) (x2n : Nat) (x2c : Nat) (x3 : Int) (x4 : Nat) (x9 : Option Addr) (x10 : Bool) (x11 : Int) (M : AMem) : P5_18 L x1 x2 x2n x2c x3 x4 x9 x10 x11 M =
  (if (decide (x11 < (Int.ofNat x2n))) = true
    then (Option.bind (intOf? .i64 (AMem.ld M x4 0)) fun x_1 =>
      (Option.bind (intOf? .i64 (AMem.ld M x4 1)) fun x_2 =>
      (Option.bind (L.call 12 [.agg #[.int .i64 x_1, .int .i64 x_2]] []) fun r_3 =>
      (Option.bind (aggOf? 2 r_3.1) fun cs_4 =>
      (Option.bind (intOf? .i64 (cs_4[0]?)) fun x_5 =>
      (Option.bind (intOf? .i64 (cs_4[1]?)) fun x_6 =>
      (match x2 with
      | some a_7 => (if (0 : Int) ≤ x11 ∧ x11 < (Int.ofNat x2n)
        then (Option.bind (intOf? .i64 (AMem.ld M a_7.block (a_7.off + ((Int.toNat x11) * 2)))) fun x_8 =>
          (match x2 with
          | some a_9 => (if (0 : Int) ≤ x11 ∧ x11 < (Int.ofNat x2n)
            then (Option.bind (sliceOf? (AMem.ld M a_9.block ((a_9.off + ((Int.toNat x11) * 2)) + 1))) fun s_10 =>
              (Option.bind (L.call 14 [.slice s_10.1 s_10.2.1 s_10.2.2] M) fun r_11 =>
              (Option.bind (sliceOf? (some r_11.1)) fun s_12 =>
              (Option.bind (L.call 13 [.agg #[.int .i64 x_5, .int .i64 x_6], .int .i64 x_8, .slice s_12.1 s_12.2.1 s_12.2.2] r_11.2) fun r_13 =>
              (Option.bind (ptrOf? (some r_13.1)) fun p_14 =>
              (if chkOk [(6, 12)] [(6, a_7.block)] [(12, (M, r_11.2))] = true
              then P5_29 L x1 x2 x2n x2c x3 x4 x9 x10 x11 p_14 r_13.2
              else none))))))
            else none)
          | none => none))
        else none)
      | none => none)))))))
    else P5_54 L x1 x4 x9 x10 M) := QP5_18_eq L b5_18 c5_29 c5_53 c5_54 (hL b5_18) P5_18 (Classical.choose_spec XP5_18) P5_29 (Classical.choose_spec XP5_29) P5_54 (Classical.choose_spec XP5_54) x1 x2 x2n x2c x3 x4 x9 x10 x11 M
theorem QP5_29_eq (L : Rec) (b5_18 c5_37 c5_53 c5_54 : ACode) (P5_29 : Rec → Int → (Option Addr) → Nat → Nat → Int → Nat → (Option Addr) → Bool → Int → (Option Addr) → AMem → Res) (hP5_29 : Eq P5_29 fun L x1 x2 x2n x2c x3 x4 x9 x10 x11 x12 M => code L (.seq (.ops o5_30) (.seq (.seq (.ops o5_33) (.cond (.tmp 66) (.ops o5_35) (.skip))) (.clear zl21 c5_37))) (blockK 1 (seqK (code L (.clear zl22 c5_53) (postK zl22 (loopK L b5_18 (blockK 0 (seqK (code L (.clear zl24 c5_54) (retK [.tmp 8])) (retK [.tmp 8])))))) (postK zl22 (loopK L b5_18 (blockK 0 (seqK (code L (.clear zl24 c5_54) (retK [.tmp 8])) (retK [.tmp 8]))))))) (s5_29 x1 x2 x2n x2c x3 x4 x9 x10 x11 x12 M) M) (P5_37 : Rec → Int → (Option Addr) → Nat → Nat → Int → Nat → (Option Addr) → Bool → Int → (Option Addr) → Int → AMem → Res) (hP5_37 : Eq P5_37 fun L x1 x2 x2n x2c x3 x4 x9 x10 x11 x12 x13 M => code L c5_37 (blockK 1 (seqK (code L (.clear zl22 c5_53) (postK zl22 (loopK L b5_18 (blockK 0 (seqK (code L (.clear zl24 c5_54) (retK [.tmp 8])) (retK [.tmp 8])))))) (postK zl22 (loopK L b5_18 (blockK 0 (seqK (code L (.clear zl24 c5_54) (retK [.tmp 8])) (retK [.tmp 8]))))))) (s5_37 x1 x2 x2n x2c x3 x4 x9 x10 x11 x12 x13 M) M) (x1 : Int) (x2 : Option Addr) (x2n : Nat) (x2c : Nat) (x3 : Int) (x4 : Nat) (x9 : Option Addr) (x10 : Bool) (x11 : Int) (x12 : Option Addr) (M : AMem) : P5_29 L x1 x2 x2n x2c x3 x4 x9 x10 x11 x12 M =
  (if (x11 == (IntKind.wrap .i64 ((Int.ofNat x2n) - 1))) = true
    then P5_37 L x1 x2 x2n x2c x3 x4 x9 x10 x11 x12 (IntKind.wrap .i64 x3) M
    else P5_37 L x1 x2 x2n x2c x3 x4 x9 x10 x11 x12 1000 M) := by
  subst hP5_29; subst hP5_37; kernel_rfl
theorem P5_29_eq (L : Rec) (x1 : Int) (x2 : Option Addr) (x2n : Nat) (x2c : Nat) (x3 : Int) (x4 : Nat) (x9 : Option Addr) (x10 : Bool) (x11 : Int) (x12 : Option Addr) (M : AMem) : P5_29 L x1 x2 x2n x2c x3 x4 x9 x10 x11 x12 M =
  (if (x11 == (IntKind.wrap .i64 ((Int.ofNat x2n) - 1))) = true
    then P5_37 L x1 x2 x2n x2c x3 x4 x9 x10 x11 x12 (IntKind.wrap .i64 x3) M
    else P5_37 L x1 x2 x2n x2c x3 x4 x9 x10 x11 x12 1000 M) := QP5_29_eq L b5_18 c5_37 c5_53 c5_54 P5_29 (Classical.choose_spec XP5_29) P5_37 (Classical.choose_spec XP5_37) x1 x2 x2n x2c x3 x4 x9 x10 x11 x12 M
theorem QP5_54_eq (L : Rec) (b5_62 c5_71 : ACode) (P5_54 : Rec → Int → Nat → (Option Addr) → Bool → AMem → Res) (hP5_54 : Eq P5_54 fun L x1 x4 x9 x10 M => code L (.seq (.ops o5_55) (.seq (.ops o5_57) (.seq (.ops o5_59) (.seq (.block 4 (.clear zl23 (.loop b5_62))) (.clear zl23 c5_71))))) (retK [.tmp 8]) (s5_54 x1 x4 x9 x10 M) M) (P5_62 : Rec → Nat → (Option Addr) → Bool → Int → (Option Addr) → Int → AMem → Res) (hP5_62 : Eq P5_62 fun L x4 x9 x10 x15 x16 x17 M => L.loop b5_62 (blockK 4 (seqK (code L (.clear zl23 c5_71) (retK [.tmp 8])) (retK [.tmp 8]))) (s5_62 x4 x9 x10 x15 x16 x17 M) M) (x1 : Int) (x4 : Nat) (x9 : Option Addr) (x10 : Bool) (M : AMem) : P5_54 L x1 x4 x9 x10 M =
  (Option.bind (intOf? .i64 (AMem.ld M x4 0)) fun x_1 =>
    (Option.bind (intOf? .i64 (AMem.ld M x4 1)) fun x_2 =>
    (Option.bind (L.call 12 [.agg #[.int .i64 x_1, .int .i64 x_2]] []) fun r_3 =>
    (Option.bind (aggOf? 2 r_3.1) fun cs_4 =>
    (Option.bind (intOf? .i64 (cs_4[0]?)) fun x_5 =>
    (Option.bind (intOf? .i64 (cs_4[1]?)) fun x_6 =>
    (Option.bind (L.call 11 [.agg #[.int .i64 x_5, .int .i64 x_6], .int .i64 (IntKind.wrap .i64 (1 + (Int.tmod (IntKind.wrap .i64 x1) 20)))] M) fun r_7 =>
    (Option.bind (ptrOf? (some r_7.1)) fun p_8 =>
    P5_62 L x4 x9 x10 (IntKind.wrap .i64 (1 + (Int.tmod (IntKind.wrap .i64 x1) 20))) p_8 0 r_7.2)))))))) := by
  subst hP5_54; subst hP5_62; kernel_rfl
theorem P5_54_eq (L : Rec) (x1 : Int) (x4 : Nat) (x9 : Option Addr) (x10 : Bool) (M : AMem) : P5_54 L x1 x4 x9 x10 M =
  (Option.bind (intOf? .i64 (AMem.ld M x4 0)) fun x_1 =>
    (Option.bind (intOf? .i64 (AMem.ld M x4 1)) fun x_2 =>
    (Option.bind (L.call 12 [.agg #[.int .i64 x_1, .int .i64 x_2]] []) fun r_3 =>
    (Option.bind (aggOf? 2 r_3.1) fun cs_4 =>
    (Option.bind (intOf? .i64 (cs_4[0]?)) fun x_5 =>
    (Option.bind (intOf? .i64 (cs_4[1]?)) fun x_6 =>
    (Option.bind (L.call 11 [.agg #[.int .i64 x_5, .int .i64 x_6], .int .i64 (IntKind.wrap .i64 (1 + (Int.tmod (IntKind.wrap .i64 x1) 20)))] M) fun r_7 =>
    (Option.bind (ptrOf? (some r_7.1)) fun p_8 =>
    P5_62 L x4 x9 x10 (IntKind.wrap .i64 (1 + (Int.tmod (IntKind.wrap .i64 x1) 20))) p_8 0 r_7.2)))))))) := QP5_54_eq L b5_62 c5_71 P5_54 (Classical.choose_spec XP5_54) P5_62 (Classical.choose_spec XP5_62) x1 x4 x9 x10 M
theorem QP5_37_eq (L : Rec) (b5_18 b5_41 c5_52 c5_53 c5_54 : ACode) (P5_37 : Rec → Int → (Option Addr) → Nat → Nat → Int → Nat → (Option Addr) → Bool → Int → (Option Addr) → Int → AMem → Res) (hP5_37 : Eq P5_37 fun L x1 x2 x2n x2c x3 x4 x9 x10 x11 x12 x13 M => code L (.seq (.seq (.ops o5_39) (.block 2 (.clear zl19 (.loop b5_41)))) (.clear zl20 c5_52)) (blockK 1 (seqK (code L (.clear zl22 c5_53) (postK zl22 (loopK L b5_18 (blockK 0 (seqK (code L (.clear zl24 c5_54) (retK [.tmp 8])) (retK [.tmp 8])))))) (postK zl22 (loopK L b5_18 (blockK 0 (seqK (code L (.clear zl24 c5_54) (retK [.tmp 8])) (retK [.tmp 8]))))))) (s5_37 x1 x2 x2n x2c x3 x4 x9 x10 x11 x12 x13 M) M) (P5_41 : Rec → Int → (Option Addr) → Nat → Nat → Int → Nat → (Option Addr) → Bool → Int → (Option Addr) → Int → Int → AMem → Res) (hP5_41 : Eq P5_41 fun L x1 x2 x2n x2c x3 x4 x9 x10 x11 x12 x13 x14 M => L.loop b5_41 (blockK 2 (seqK (code L (.clear zl20 c5_52) (blockK 1 (seqK (code L (.clear zl22 c5_53) (postK zl22 (loopK L b5_18 (blockK 0 (seqK (code L (.clear zl24 c5_54) (retK [.tmp 8])) (retK [.tmp 8])))))) (postK zl22 (loopK L b5_18 (blockK 0 (seqK (code L (.clear zl24 c5_54) (retK [.tmp 8])) (retK [.tmp 8])))))))) (blockK 1 (seqK (code L (.clear zl22 c5_53) (postK zl22 (loopK L b5_18 (blockK 0 (seqK (code L (.clear zl24 c5_54) (retK [.tmp 8])) (retK [.tmp 8])))))) (postK zl22 (loopK L b5_18 (blockK 0 (seqK (code L (.clear zl24 c5_54) (retK [.tmp 8])) (retK [.tmp 8]))))))))) (s5_41 x1 x2 x2n x2c x3 x4 x9 x10 x11 x12 x13 x14 M) M) (x1 : Int) (x2 : Option Addr) (x2n : Nat) (x2c : Nat) (x3 : Int) (x4 : Nat) (x9 : Option Addr) (x10 : Bool) (x11 : Int) (x12 : Option Addr) (x13 : Int) (M : AMem) : P5_37 L x1 x2 x2n x2c x3 x4 x9 x10 x11 x12 x13 M =
  P5_41 L x1 x2 x2n x2c x3 x4 x9 x10 x11 x12 x13 0 M := by
  subst hP5_37; subst hP5_41; kernel_rfl
theorem P5_37_eq (L : Rec) (x1 : Int) (x2 : Option Addr) (x2n : Nat) (x2c : Nat) (x3 : Int) (x4 : Nat) (x9 : Option Addr) (x10 : Bool) (x11 : Int) (x12 : Option Addr) (x13 : Int) (M : AMem) : P5_37 L x1 x2 x2n x2c x3 x4 x9 x10 x11 x12 x13 M =
  P5_41 L x1 x2 x2n x2c x3 x4 x9 x10 x11 x12 x13 0 M := QP5_37_eq L b5_18 b5_41 c5_52 c5_53 c5_54 P5_37 (Classical.choose_spec XP5_37) P5_41 (Classical.choose_spec XP5_41) x1 x2 x2n x2c x3 x4 x9 x10 x11 x12 x13 M
theorem QP5_62_eq (L : Rec) (b5_62 c5_71 : ACode) (hb : ∀ K t A, L.loop b5_62 K t A = code L (.post (.seq (.seq (.ops o5_65) (.cond (.tmp 103) (.skip) (.exit 4))) (.block 5 (.ops o5_70))) zl23) (loopK L b5_62 K) t A) (P5_62 : Rec → Nat → (Option Addr) → Bool → Int → (Option Addr) → Int → AMem → Res) (hP5_62 : Eq P5_62 fun L x4 x9 x10 x15 x16 x17 M => L.loop b5_62 (blockK 4 (seqK (code L (.clear zl23 c5_71) (retK [.tmp 8])) (retK [.tmp 8]))) (s5_62 x4 x9 x10 x15 x16 x17 M) M) (P5_71 : Rec → Nat → (Option Addr) → Bool → Int → (Option Addr) → Int → AMem → Res) (hP5_71 : Eq P5_71 fun L x4 x9 x10 x15 x16 x17 M => code L c5_71 (retK [.tmp 8]) (s5_71 x4 x9 x10 x15 x16 x17 M) M) (x4 : Nat) (x9 : Option Addr) (x10 : Bool) (x15 : Int) (x16 : Option Addr) (x17 : Int) (M : AMem) : P5_62 L x4 x9 x10 x15 x16 x17 M =
  (if (decide (x17 < 2000)) = true
    then (Option.bind (L.call 17 [.pointer x16, .pointer x9] M) fun r_1 =>
      (Option.bind (boolOf? (some r_1.1)) fun q_2 =>
      (if q_2 = true
      then P5_62 L x4 x9 x10 x15 x16 (IntKind.wrap .i64 (x17 + 1)) r_1.2
      else P5_71 L x4 x9 x10 x15 x16 x17 r_1.2)))
    else P5_71 L x4 x9 x10 x15 x16 x17 M) := by
  subst hP5_62; subst hP5_71; exact (hb (blockK 4 (seqK (code L (.clear zl23 c5_71) (retK [.tmp 8])) (retK [.tmp 8]))) (s5_62 x4 x9 x10 x15 x16 x17 M) M).trans (by kernel_rfl)
theorem P5_62_eq (L : Rec) (hL : ∀ b K t A, L.loop b K t A = code L b (loopK L b K) t A) (x4 : Nat) (x9 : Option Addr) (x10 : Bool) (x15 : Int) (x16 : Option Addr) (x17 : Int) (M : AMem) : P5_62 L x4 x9 x10 x15 x16 x17 M =
  (if (decide (x17 < 2000)) = true
    then (Option.bind (L.call 17 [.pointer x16, .pointer x9] M) fun r_1 =>
      (Option.bind (boolOf? (some r_1.1)) fun q_2 =>
      (if q_2 = true
      then P5_62 L x4 x9 x10 x15 x16 (IntKind.wrap .i64 (x17 + 1)) r_1.2
      else P5_71 L x4 x9 x10 x15 x16 x17 r_1.2)))
    else P5_71 L x4 x9 x10 x15 x16 x17 M) := QP5_62_eq L b5_62 c5_71 (hL b5_62) P5_62 (Classical.choose_spec XP5_62) P5_71 (Classical.choose_spec XP5_71) x4 x9 x10 x15 x16 x17 M
theorem QP5_41_eq (L : Rec) (b5_18 b5_41 c5_51 c5_52 c5_53 c5_54 : ACode) (hb : ∀ K t A, L.loop b5_41 K t A = code L (.post (.seq (.seq (.ops o5_44) (.cond (.tmp 76) (.skip) (.exit 2))) (.seq (.block 3 (.skip)) (.clear zl19 c5_51))) zl19) (loopK L b5_41 K) t A) (P5_41 : Rec → Int → (Option Addr) → Nat → Nat → Int → Nat → (Option Addr) → Bool → Int → (Option Addr) → Int → Int → AMem → Res) (hP5_41 : Eq P5_41 fun L x1 x2 x2n x2c x3 x4 x9 x10 x11 x12 x13 x14 M => L.loop b5_41 (blockK 2 (seqK (code L (.clear zl20 c5_52) (blockK 1 (seqK (code L (.clear zl22 c5_53) (postK zl22 (loopK L b5_18 (blockK 0 (seqK (code L (.clear zl24 c5_54) (retK [.tmp 8])) (retK [.tmp 8])))))) (postK zl22 (loopK L b5_18 (blockK 0 (seqK (code L (.clear zl24 c5_54) (retK [.tmp 8])) (retK [.tmp 8])))))))) (blockK 1 (seqK (code L (.clear zl22 c5_53) (postK zl22 (loopK L b5_18 (blockK 0 (seqK (code L (.clear zl24 c5_54) (retK [.tmp 8])) (retK [.tmp 8])))))) (postK zl22 (loopK L b5_18 (blockK 0 (seqK (code L (.clear zl24 c5_54) (retK [.tmp 8])) (retK [.tmp 8]))))))))) (s5_41 x1 x2 x2n x2c x3 x4 x9 x10 x11 x12 x13 x14 M) M) (P5_51 : Rec → Int → (Option Addr) → Nat → Nat → Int → Nat → (Option Addr) → Bool → Int → (Option Addr) → Int → Int → AMem → Res) (hP5_51 : Eq P5_51 fun L x1 x2 x2n x2c x3 x4 x9 x10 x11 x12 x13 x14 M => code L c5_51 (postK zl19 (loopK L b5_41 (blockK 2 (seqK (code L (.clear zl20 c5_52) (blockK 1 (seqK (code L (.clear zl22 c5_53) (postK zl22 (loopK L b5_18 (blockK 0 (seqK (code L (.clear zl24 c5_54) (retK [.tmp 8])) (retK [.tmp 8])))))) (postK zl22 (loopK L b5_18 (blockK 0 (seqK (code L (.clear zl24 c5_54) (retK [.tmp 8])) (retK [.tmp 8])))))))) (blockK 1 (seqK (code L (.clear zl22 c5_53) (postK zl22 (loopK L b5_18 (blockK 0 (seqK (code L (.clear zl24 c5_54) (retK [.tmp 8])) (retK [.tmp 8])))))) (postK zl22 (loopK L b5_18 (blockK 0 (seqK (code L (.clear zl24 c5_54) (retK [.tmp 8])) (retK [.tmp 8]))))))))))) (s5_51 x1 x2 x2n x2c x3 x4 x9 x10 x11 x12 x13 x14 M) M) (P5_52 : Rec → Int → (Option Addr) → Nat → Nat → Int → Nat → (Option Addr) → Bool → Int → (Option Addr) → AMem → Res) (hP5_52 : Eq P5_52 fun L x1 x2 x2n x2c x3 x4 x9 x10 x11 x12 M => code L c5_52 (blockK 1 (seqK (code L (.clear zl22 c5_53) (postK zl22 (loopK L b5_18 (blockK 0 (seqK (code L (.clear zl24 c5_54) (retK [.tmp 8])) (retK [.tmp 8])))))) (postK zl22 (loopK L b5_18 (blockK 0 (seqK (code L (.clear zl24 c5_54) (retK [.tmp 8])) (retK [.tmp 8]))))))) (s5_52 x1 x2 x2n x2c x3 x4 x9 x10 x11 x12 M) M) (x1 : Int) (x2 : Option Addr) (x2n : Nat) (x2c : Nat) (x3 : Int) (x4 : Nat) (x9 : Option Addr) (x10 : Bool) (x11 : Int) (x12 : Option Addr) (x13 : Int) (x14 : Int) (M : AMem) : P5_41 L x1 x2 x2n x2c x3 x4 x9 x10 x11 x12 x13 x14 M =
  (if (decide (x14 < x13)) = true
    then (Option.bind (L.call 18 [.pointer x12, .pointer x9] M) fun r_1 =>
      (Option.bind (boolOf? (some r_1.1)) fun q_2 =>
      (if q_2 = true
      then P5_51 L x1 x2 x2n x2c x3 x4 x9 x10 x11 x12 x13 x14 r_1.2
      else P5_52 L x1 x2 x2n x2c x3 x4 x9 x10 x11 x12 r_1.2)))
    else P5_52 L x1 x2 x2n x2c x3 x4 x9 x10 x11 x12 M) := by
  subst hP5_41; subst hP5_51; subst hP5_52; exact (hb (blockK 2 (seqK (code L (.clear zl20 c5_52) (blockK 1 (seqK (code L (.clear zl22 c5_53) (postK zl22 (loopK L b5_18 (blockK 0 (seqK (code L (.clear zl24 c5_54) (retK [.tmp 8])) (retK [.tmp 8])))))) (postK zl22 (loopK L b5_18 (blockK 0 (seqK (code L (.clear zl24 c5_54) (retK [.tmp 8])) (retK [.tmp 8])))))))) (blockK 1 (seqK (code L (.clear zl22 c5_53) (postK zl22 (loopK L b5_18 (blockK 0 (seqK (code L (.clear zl24 c5_54) (retK [.tmp 8])) (retK [.tmp 8])))))) (postK zl22 (loopK L b5_18 (blockK 0 (seqK (code L (.clear zl24 c5_54) (retK [.tmp 8])) (retK [.tmp 8]))))))))) (s5_41 x1 x2 x2n x2c x3 x4 x9 x10 x11 x12 x13 x14 M) M).trans (by kernel_rfl)
theorem P5_41_eq (L : Rec) (hL : ∀ b K t A, L.loop b K t A = code L b (loopK L b K) t A) (x1 : Int) (x2 : Option Addr) (x2n : Nat) (x2c : Nat) (x3 : Int) (x4 : Nat) (x9 : Option Addr) (x10 : Bool) (x11 : Int) (x12 : Option Addr) (x13 : Int) (x14 : Int) (M : AMem) : P5_41 L x1 x2 x2n x2c x3 x4 x9 x10 x11 x12 x13 x14 M =
  (if (decide (x14 < x13)) = true
    then (Option.bind (L.call 18 [.pointer x12, .pointer x9] M) fun r_1 =>
      (Option.bind (boolOf? (some r_1.1)) fun q_2 =>
      (if q_2 = true
      then P5_51 L x1 x2 x2n x2c x3 x4 x9 x10 x11 x12 x13 x14 r_1.2
      else P5_52 L x1 x2 x2n x2c x3 x4 x9 x10 x11 x12 r_1.2)))
    else P5_52 L x1 x2 x2n x2c x3 x4 x9 x10 x11 x12 M) := QP5_41_eq L b5_18 b5_41 c5_51 c5_52 c5_53 c5_54 (hL b5_41) P5_41 (Classical.choose_spec XP5_41) P5_51 (Classical.choose_spec XP5_51) P5_52 (Classical.choose_spec XP5_52) x1 x2 x2n x2c x3 x4 x9 x10 x11 x12 x13 x14 M
theorem QP5_71_eq (L : Rec) (P5_71 : Rec → Nat → (Option Addr) → Bool → Int → (Option Addr) → Int → AMem → Res) (hP5_71 : Eq P5_71 fun L x4 x9 x10 x15 x16 x17 M => code L (.seq (.ops o5_72) (.seq (.seq (.ops o5_75) (.cond (.tmp 111) (.seq (.ops o5_78) (.ret)) (.skip))) (.seq (.ops o5_82) (.ret)))) (retK [.tmp 8]) (s5_71 x4 x9 x10 x15 x16 x17 M) M) (x4 : Nat) (x9 : Option Addr) (x10 : Bool) (x15 : Int) (x16 : Option Addr) (x17 : Int) (M : AMem) : P5_71 L x4 x9 x10 x15 x16 x17 M =
  (Option.bind (L.call 20 [.pointer x16] M) fun r_1 =>
    (Option.bind (tupOf? 2 r_1.1) fun cs_2 =>
    (Option.bind (cs_2[0]?) fun u_3 =>
    (Option.bind (sliceOf? (some u_3)) fun s_4 =>
    (Option.bind (cs_2[1]?) fun u_5 =>
    (Option.bind (intOf? .i64 (some u_5)) fun x_6 =>
    (if x10 = true
    then (if (x_6 == 12) = true
      then (Option.bind (intOf? .i64 (AMem.ld r_1.2 x4 0)) fun x_7 =>
        (Option.bind (intOf? .i64 (AMem.ld r_1.2 x4 1)) fun x_8 =>
        (Option.bind (L.call 12 [.agg #[.int .i64 x_7, .int .i64 x_8]] []) fun r_9 =>
        (Option.bind (aggOf? 2 r_9.1) fun cs_10 =>
        (Option.bind (intOf? .i64 (cs_10[0]?)) fun x_11 =>
        (Option.bind (intOf? .i64 (cs_10[1]?)) fun x_12 =>
        (Option.bind (L.call 30 [.agg #[.int .i64 x_11, .int .i64 x_12]] []) fun r_13 =>
        (Option.bind (intOf? .i64 (some r_13.1)) fun x_14 =>
        (if (x17 == (IntKind.wrap .i64 (x15 * x_14))) = true
        then (if ((Int.ofNat s_4.2.1) == 0) = true
          then (Option.bind (L.call 8 [] []) fun r_15 =>
            (Option.bind (boolOf? (some r_15.1)) fun q_16 =>
            some (.bool q_16, r_1.2)))
          else some (.bool false, r_1.2))
        else some (.bool false, r_1.2))))))))))
      else some (.bool false, r_1.2))
    else (if (x_6 == 0) = true
      then (Option.bind (intOf? .i64 (AMem.ld r_1.2 x4 0)) fun x_17 =>
        (Option.bind (intOf? .i64 (AMem.ld r_1.2 x4 1)) fun x_18 =>
        (Option.bind (L.call 12 [.agg #[.int .i64 x_17, .int .i64 x_18]] []) fun r_19 =>
        (Option.bind (aggOf? 2 r_19.1) fun cs_20 =>
        (Option.bind (intOf? .i64 (cs_20[0]?)) fun x_21 =>
        (Option.bind (intOf? .i64 (cs_20[1]?)) fun x_22 =>
        (Option.bind (L.call 30 [.agg #[.int .i64 x_21, .int .i64 x_22]] []) fun r_23 =>
        (Option.bind (intOf? .i64 (some r_23.1)) fun x_24 =>
        (if (x17 == x_24) = true
        then (Option.bind (intOf? .i64 (AMem.ld r_1.2 x4 0)) fun x_25 =>
          (Option.bind (intOf? .i64 (AMem.ld r_1.2 x4 1)) fun x_26 =>
          (Option.bind (L.call 12 [.agg #[.int .i64 x_25, .int .i64 x_26]] []) fun r_27 =>
          (Option.bind (aggOf? 2 r_27.1) fun cs_28 =>
          (Option.bind (intOf? .i64 (cs_28[0]?)) fun x_29 =>
          (Option.bind (intOf? .i64 (cs_28[1]?)) fun x_30 =>
          (Option.bind (L.call 34 [.agg #[.int .i64 x_29, .int .i64 x_30], .pointer x9] r_1.2) fun r_31 =>
          (Option.bind (sliceOf? (some r_31.1)) fun s_32 =>
          (Option.bind (L.call 29 [.slice s_4.1 s_4.2.1 s_4.2.2, .slice s_32.1 s_32.2.1 s_32.2.2] r_31.2) fun r_33 =>
          (Option.bind (boolOf? (some r_33.1)) fun q_34 =>
          (if q_34 = true
          then (Option.bind (L.call 21 [.pointer x16] r_33.2) fun r_35 =>
            (Option.bind (intOf? .i64 (some r_35.1)) fun x_36 =>
            (if (x_36 == 1) = true
            then (Option.bind (L.call 8 [] []) fun r_37 =>
              (Option.bind (boolOf? (some r_37.1)) fun q_38 =>
              some (.bool q_38, r_35.2)))
            else some (.bool false, r_35.2))))
          else some (.bool false, r_33.2))))))))))))
        else some (.bool false, r_1.2))))))))))
      else some (.bool false, r_1.2))))))))) := by
  subst hP5_71; kernel_rfl
theorem P5_71_eq (L : Rec) (x4 : Nat) (x9 : Option Addr) (x10 : Bool) (x15 : Int) (x16 : Option Addr) (x17 : Int) (M : AMem) : P5_71 L x4 x9 x10 x15 x16 x17 M =
  (Option.bind (L.call 20 [.pointer x16] M) fun r_1 =>
    (Option.bind (tupOf? 2 r_1.1) fun cs_2 =>
    (Option.bind (cs_2[0]?) fun u_3 =>
    (Option.bind (sliceOf? (some u_3)) fun s_4 =>
    (Option.bind (cs_2[1]?) fun u_5 =>
    (Option.bind (intOf? .i64 (some u_5)) fun x_6 =>
    (if x10 = true
    then (if (x_6 == 12) = true
      then (Option.bind (intOf? .i64 (AMem.ld r_1.2 x4 0)) fun x_7 =>
        (Option.bind (intOf? .i64 (AMem.ld r_1.2 x4 1)) fun x_8 =>
        (Option.bind (L.call 12 [.agg #[.int .i64 x_7, .int .i64 x_8]] []) fun r_9 =>
        (Option.bind (aggOf? 2 r_9.1) fun cs_10 =>
        (Option.bind (intOf? .i64 (cs_10[0]?)) fun x_11 =>
        (Option.bind (intOf? .i64 (cs_10[1]?)) fun x_12 =>
        (Option.bind (L.call 30 [.agg #[.int .i64 x_11, .int .i64 x_12]] []) fun r_13 =>
        (Option.bind (intOf? .i64 (some r_13.1)) fun x_14 =>
        (if (x17 == (IntKind.wrap .i64 (x15 * x_14))) = true
        then (if ((Int.ofNat s_4.2.1) == 0) = true
          then (Option.bind (L.call 8 [] []) fun r_15 =>
            (Option.bind (boolOf? (some r_15.1)) fun q_16 =>
            some (.bool q_16, r_1.2)))
          else some (.bool false, r_1.2))
        else some (.bool false, r_1.2))))))))))
      else some (.bool false, r_1.2))
    else (if (x_6 == 0) = true
      then (Option.bind (intOf? .i64 (AMem.ld r_1.2 x4 0)) fun x_17 =>
        (Option.bind (intOf? .i64 (AMem.ld r_1.2 x4 1)) fun x_18 =>
        (Option.bind (L.call 12 [.agg #[.int .i64 x_17, .int .i64 x_18]] []) fun r_19 =>
        (Option.bind (aggOf? 2 r_19.1) fun cs_20 =>
        (Option.bind (intOf? .i64 (cs_20[0]?)) fun x_21 =>
        (Option.bind (intOf? .i64 (cs_20[1]?)) fun x_22 =>
        (Option.bind (L.call 30 [.agg #[.int .i64 x_21, .int .i64 x_22]] []) fun r_23 =>
        (Option.bind (intOf? .i64 (some r_23.1)) fun x_24 =>
        (if (x17 == x_24) = true
        then (Option.bind (intOf? .i64 (AMem.ld r_1.2 x4 0)) fun x_25 =>
          (Option.bind (intOf? .i64 (AMem.ld r_1.2 x4 1)) fun x_26 =>
          (Option.bind (L.call 12 [.agg #[.int .i64 x_25, .int .i64 x_26]] []) fun r_27 =>
          (Option.bind (aggOf? 2 r_27.1) fun cs_28 =>
          (Option.bind (intOf? .i64 (cs_28[0]?)) fun x_29 =>
          (Option.bind (intOf? .i64 (cs_28[1]?)) fun x_30 =>
          (Option.bind (L.call 34 [.agg #[.int .i64 x_29, .int .i64 x_30], .pointer x9] r_1.2) fun r_31 =>
          (Option.bind (sliceOf? (some r_31.1)) fun s_32 =>
          (Option.bind (L.call 29 [.slice s_4.1 s_4.2.1 s_4.2.2, .slice s_32.1 s_32.2.1 s_32.2.2] r_31.2) fun r_33 =>
          (Option.bind (boolOf? (some r_33.1)) fun q_34 =>
          (if q_34 = true
          then (Option.bind (L.call 21 [.pointer x16] r_33.2) fun r_35 =>
            (Option.bind (intOf? .i64 (some r_35.1)) fun x_36 =>
            (if (x_36 == 1) = true
            then (Option.bind (L.call 8 [] []) fun r_37 =>
              (Option.bind (boolOf? (some r_37.1)) fun q_38 =>
              some (.bool q_38, r_35.2)))
            else some (.bool false, r_35.2))))
          else some (.bool false, r_33.2))))))))))))
        else some (.bool false, r_1.2))))))))))
      else some (.bool false, r_1.2))))))))) := QP5_71_eq L P5_71 (Classical.choose_spec XP5_71) x4 x9 x10 x15 x16 x17 M
theorem QP5_51_eq (L : Rec) (b5_18 b5_41 c5_52 c5_53 c5_54 : ACode) (P5_41 : Rec → Int → (Option Addr) → Nat → Nat → Int → Nat → (Option Addr) → Bool → Int → (Option Addr) → Int → Int → AMem → Res) (hP5_41 : Eq P5_41 fun L x1 x2 x2n x2c x3 x4 x9 x10 x11 x12 x13 x14 M => L.loop b5_41 (blockK 2 (seqK (code L (.clear zl20 c5_52) (blockK 1 (seqK (code L (.clear zl22 c5_53) (postK zl22 (loopK L b5_18 (blockK 0 (seqK (code L (.clear zl24 c5_54) (retK [.tmp 8])) (retK [.tmp 8])))))) (postK zl22 (loopK L b5_18 (blockK 0 (seqK (code L (.clear zl24 c5_54) (retK [.tmp 8])) (retK [.tmp 8])))))))) (blockK 1 (seqK (code L (.clear zl22 c5_53) (postK zl22 (loopK L b5_18 (blockK 0 (seqK (code L (.clear zl24 c5_54) (retK [.tmp 8])) (retK [.tmp 8])))))) (postK zl22 (loopK L b5_18 (blockK 0 (seqK (code L (.clear zl24 c5_54) (retK [.tmp 8])) (retK [.tmp 8]))))))))) (s5_41 x1 x2 x2n x2c x3 x4 x9 x10 x11 x12 x13 x14 M) M) (P5_51 : Rec → Int → (Option Addr) → Nat → Nat → Int → Nat → (Option Addr) → Bool → Int → (Option Addr) → Int → Int → AMem → Res) (hP5_51 : Eq P5_51 fun L x1 x2 x2n x2c x3 x4 x9 x10 x11 x12 x13 x14 M => code L (.ops o5_51) (postK zl19 (loopK L b5_41 (blockK 2 (seqK (code L (.clear zl20 c5_52) (blockK 1 (seqK (code L (.clear zl22 c5_53) (postK zl22 (loopK L b5_18 (blockK 0 (seqK (code L (.clear zl24 c5_54) (retK [.tmp 8])) (retK [.tmp 8])))))) (postK zl22 (loopK L b5_18 (blockK 0 (seqK (code L (.clear zl24 c5_54) (retK [.tmp 8])) (retK [.tmp 8])))))))) (blockK 1 (seqK (code L (.clear zl22 c5_53) (postK zl22 (loopK L b5_18 (blockK 0 (seqK (code L (.clear zl24 c5_54) (retK [.tmp 8])) (retK [.tmp 8])))))) (postK zl22 (loopK L b5_18 (blockK 0 (seqK (code L (.clear zl24 c5_54) (retK [.tmp 8])) (retK [.tmp 8]))))))))))) (s5_51 x1 x2 x2n x2c x3 x4 x9 x10 x11 x12 x13 x14 M) M) (x1 : Int) (x2 : Option Addr) (x2n : Nat) (x2c : Nat) (x3 : Int) (x4 : Nat) (x9 : Option Addr) (x10 : Bool) (x11 : Int) (x12 : Option Addr) (x13 : Int) (x14 : Int) (M : AMem) : P5_51 L x1 x2 x2n x2c x3 x4 x9 x10 x11 x12 x13 x14 M =
  P5_41 L x1 x2 x2n x2c x3 x4 x9 x10 x11 x12 x13 (IntKind.wrap .i64 (x14 + 1)) M := by
  subst hP5_41; subst hP5_51; kernel_rfl
theorem P5_51_eq (L : Rec) (x1 : Int) (x2 : Option Addr) (x2n : Nat) (x2c : Nat) (x3 : Int) (x4 : Nat) (x9 : Option Addr) (x10 : Bool) (x11 : Int) (x12 : Option Addr) (x13 : Int) (x14 : Int) (M : AMem) : P5_51 L x1 x2 x2n x2c x3 x4 x9 x10 x11 x12 x13 x14 M =
  P5_41 L x1 x2 x2n x2c x3 x4 x9 x10 x11 x12 x13 (IntKind.wrap .i64 (x14 + 1)) M := QP5_51_eq L b5_18 b5_41 c5_52 c5_53 c5_54 P5_41 (Classical.choose_spec XP5_41) P5_51 (Classical.choose_spec XP5_51) x1 x2 x2n x2c x3 x4 x9 x10 x11 x12 x13 x14 M
theorem QP5_52_eq (L : Rec) (b5_18 c5_53 c5_54 : ACode) (P5_52 : Rec → Int → (Option Addr) → Nat → Nat → Int → Nat → (Option Addr) → Bool → Int → (Option Addr) → AMem → Res) (hP5_52 : Eq P5_52 fun L x1 x2 x2n x2c x3 x4 x9 x10 x11 x12 M => code L (.ops o5_52) (blockK 1 (seqK (code L (.clear zl22 c5_53) (postK zl22 (loopK L b5_18 (blockK 0 (seqK (code L (.clear zl24 c5_54) (retK [.tmp 8])) (retK [.tmp 8])))))) (postK zl22 (loopK L b5_18 (blockK 0 (seqK (code L (.clear zl24 c5_54) (retK [.tmp 8])) (retK [.tmp 8]))))))) (s5_52 x1 x2 x2n x2c x3 x4 x9 x10 x11 x12 M) M) (P5_53 : Rec → Int → (Option Addr) → Nat → Nat → Int → Nat → (Option Addr) → Bool → Int → AMem → Res) (hP5_53 : Eq P5_53 fun L x1 x2 x2n x2c x3 x4 x9 x10 x11 M => code L c5_53 (postK zl22 (loopK L b5_18 (blockK 0 (seqK (code L (.clear zl24 c5_54) (retK [.tmp 8])) (retK [.tmp 8]))))) (s5_53 x1 x2 x2n x2c x3 x4 x9 x10 x11 M) M) (x1 : Int) (x2 : Option Addr) (x2n : Nat) (x2c : Nat) (x3 : Int) (x4 : Nat) (x9 : Option Addr) (x10 : Bool) (x11 : Int) (x12 : Option Addr) (M : AMem) : P5_52 L x1 x2 x2n x2c x3 x4 x9 x10 x11 x12 M =
  (if x10 = true
    then P5_53 L x1 x2 x2n x2c x3 x4 x9 true x11 M
    else (Option.bind (L.call 32 [.pointer x12] M) fun r_1 =>
      (Option.bind (boolOf? (some r_1.1)) fun q_2 =>
      (if q_2 = true
      then (Option.bind (L.call 33 [.pointer x12] r_1.2) fun r_3 =>
        (Option.bind (boolOf? (some r_3.1)) fun q_4 =>
        P5_53 L x1 x2 x2n x2c x3 x4 x9 (!q_4) x11 r_3.2))
      else P5_53 L x1 x2 x2n x2c x3 x4 x9 false x11 r_1.2)))) := by
  subst hP5_52; subst hP5_53; kernel_rfl
theorem P5_52_eq (L : Rec) (x1 : Int) (x2 : Option Addr) (x2n : Nat) (x2c : Nat) (x3 : Int) (x4 : Nat) (x9 : Option Addr) (x10 : Bool) (x11 : Int) (x12 : Option Addr) (M : AMem) : P5_52 L x1 x2 x2n x2c x3 x4 x9 x10 x11 x12 M =
  (if x10 = true
    then P5_53 L x1 x2 x2n x2c x3 x4 x9 true x11 M
    else (Option.bind (L.call 32 [.pointer x12] M) fun r_1 =>
      (Option.bind (boolOf? (some r_1.1)) fun q_2 =>
      (if q_2 = true
      then (Option.bind (L.call 33 [.pointer x12] r_1.2) fun r_3 =>
        (Option.bind (boolOf? (some r_3.1)) fun q_4 =>
        P5_53 L x1 x2 x2n x2c x3 x4 x9 (!q_4) x11 r_3.2))
      else P5_53 L x1 x2 x2n x2c x3 x4 x9 false x11 r_1.2)))) := QP5_52_eq L b5_18 c5_53 c5_54 P5_52 (Classical.choose_spec XP5_52) P5_53 (Classical.choose_spec XP5_53) x1 x2 x2n x2c x3 x4 x9 x10 x11 x12 M
theorem QP5_53_eq (L : Rec) (b5_18 c5_54 : ACode) (P5_18 : Rec → Int → (Option Addr) → Nat → Nat → Int → Nat → (Option Addr) → Bool → Int → AMem → Res) (hP5_18 : Eq P5_18 fun L x1 x2 x2n x2c x3 x4 x9 x10 x11 M => L.loop b5_18 (blockK 0 (seqK (code L (.clear zl24 c5_54) (retK [.tmp 8])) (retK [.tmp 8]))) (s5_18 x1 x2 x2n x2c x3 x4 x9 x10 x11 M) M) (P5_53 : Rec → Int → (Option Addr) → Nat → Nat → Int → Nat → (Option Addr) → Bool → Int → AMem → Res) (hP5_53 : Eq P5_53 fun L x1 x2 x2n x2c x3 x4 x9 x10 x11 M => code L (.ops o5_53) (postK zl22 (loopK L b5_18 (blockK 0 (seqK (code L (.clear zl24 c5_54) (retK [.tmp 8])) (retK [.tmp 8]))))) (s5_53 x1 x2 x2n x2c x3 x4 x9 x10 x11 M) M) (x1 : Int) (x2 : Option Addr) (x2n : Nat) (x2c : Nat) (x3 : Int) (x4 : Nat) (x9 : Option Addr) (x10 : Bool) (x11 : Int) (M : AMem) : P5_53 L x1 x2 x2n x2c x3 x4 x9 x10 x11 M =
  P5_18 L x1 x2 x2n x2c x3 x4 x9 x10 (IntKind.wrap .i64 (x11 + 1)) M := by
  subst hP5_18; subst hP5_53; kernel_rfl
theorem P5_53_eq (L : Rec) (x1 : Int) (x2 : Option Addr) (x2n : Nat) (x2c : Nat) (x3 : Int) (x4 : Nat) (x9 : Option Addr) (x10 : Bool) (x11 : Int) (M : AMem) : P5_53 L x1 x2 x2n x2c x3 x4 x9 x10 x11 M =
  P5_18 L x1 x2 x2n x2c x3 x4 x9 x10 (IntKind.wrap .i64 (x11 + 1)) M := QP5_53_eq L b5_18 c5_54 P5_18 (Classical.choose_spec XP5_18) P5_53 (Classical.choose_spec XP5_53) x1 x2 x2n x2c x3 x4 x9 x10 x11 M
theorem QE5 (L : Rec) (b5_18 c5_54 : ACode) (P5_18 : Rec → Int → (Option Addr) → Nat → Nat → Int → Nat → (Option Addr) → Bool → Int → AMem → Res) (hP5_18 : Eq P5_18 fun L x1 x2 x2n x2c x3 x4 x9 x10 x11 M => L.loop b5_18 (blockK 0 (seqK (code L (.clear zl24 c5_54) (retK [.tmp 8])) (retK [.tmp 8]))) (s5_18 x1 x2 x2n x2c x3 x4 x9 x10 x11 M) M) (x0_0 : Int) (x0_1 : Int) (x1 : Int) (x2 : Option Addr) (x2n : Nat) (x2c : Nat) (x3 : Int) (M : AMem) : enterF L ⟨156, [.tmp 8], .seq (.ops o5_1) (.seq (.seq (.ops o5_4) (.cond (.tmp 37) (.seq (.ops o5_7) (.ret)) (.skip))) (.seq (.ops o5_11) (.seq (.ops o5_13) (.seq (.seq (.ops o5_16) (.block 0 (.clear zl22 (.loop b5_18)))) (.clear zl24 c5_54)))))⟩ [.agg #[.int .i64 x0_0, .int .i64 x0_1], .int .u8 x1, .slice x2 x2n x2c, .int .u8 x3] M =
  (Option.bind (intOf? .i64 (AMem.ld (M ++ [AObj.cells [.int .i64 x0_0, .int .i64 x0_1] ⟨false, 0⟩]) (List.length M) 0)) fun x_1 =>
    (Option.bind (intOf? .i64 (AMem.ld (M ++ [AObj.cells [.int .i64 x0_0, .int .i64 x0_1] ⟨false, 0⟩]) (List.length M) 1)) fun x_2 =>
    (Option.bind (L.call 6 [.agg #[.int .i64 x_1, .int .i64 x_2]] []) fun r_3 =>
    (Option.bind (boolOf? (some r_3.1)) fun q_4 =>
    (if (!q_4) = true
    then (Option.bind (L.call 8 [] []) fun r_5 =>
      (Option.bind (boolOf? (some r_5.1)) fun q_6 =>
      some (.bool q_6, (M ++ [AObj.cells [.int .i64 x0_0, .int .i64 x0_1] ⟨false, 0⟩]))))
    else (Option.bind (intOf? .i64 (AMem.ld (M ++ [AObj.cells [.int .i64 x0_0, .int .i64 x0_1] ⟨false, 0⟩]) (List.length M) 0)) fun x_7 =>
      (if (decide (x_7 > 10)) = true
      then (Option.bind (L.call 8 [] []) fun r_8 =>
        (Option.bind (boolOf? (some r_8.1)) fun q_9 =>
        some (.bool q_9, (M ++ [AObj.cells [.int .i64 x0_0, .int .i64 x0_1] ⟨false, 0⟩]))))
      else (Option.bind (intOf? .i64 (AMem.ld (M ++ [AObj.cells [.int .i64 x0_0, .int .i64 x0_1] ⟨false, 0⟩]) (List.length M) 1)) fun x_10 =>
        (if (decide (x_10 > 4)) = true
        then (Option.bind (L.call 8 [] []) fun r_11 =>
          (Option.bind (boolOf? (some r_11.1)) fun q_12 =>
          some (.bool q_12, (M ++ [AObj.cells [.int .i64 x0_0, .int .i64 x0_1] ⟨false, 0⟩]))))
        else (Option.bind (L.call 7 [.slice x2 x2n x2c] (M ++ [AObj.cells [.int .i64 x0_0, .int .i64 x0_1] ⟨false, 0⟩])) fun r_13 =>
          (Option.bind (boolOf? (some r_13.1)) fun q_14 =>
          (if (!q_14) = true
          then (Option.bind (L.call 8 [] []) fun r_15 =>
            (Option.bind (boolOf? (some r_15.1)) fun q_16 =>
            some (.bool q_16, r_13.2)))
          else (Option.bind (intOf? .i64 (AMem.ld r_13.2 (List.length M) 0)) fun x_17 =>
            (Option.bind (intOf? .i64 (AMem.ld r_13.2 (List.length M) 1)) fun x_18 =>
            (Option.bind (L.call 10 [.agg #[.int .i64 x_17, .int .i64 x_18]] []) fun r_19 =>
            (Option.bind (intOf? .i64 (some r_19.1)) fun x_20 =>
            (Option.bind (L.call 9 [.int .i64 x_20] r_13.2) fun r_21 =>
            (Option.bind (ptrOf? (some r_21.1)) fun p_22 =>
            P5_18 L x1 x2 x2n x2c x3 (List.length M) p_22 false 0 r_21.2)))))))))))))))))) := by
  subst hP5_18; kernel_rfl
theorem E5 (L : Rec) (x0_0 : Int) (x0_1 : Int) (x1 : Int) (x2 : Option Addr) (x2n : Nat) (x2c : Nat) (x3 : Int) (M : AMem) : enterF L a5 [.agg #[.int .i64 x0_0, .int .i64 x0_1], .int .u8 x1, .slice x2 x2n x2c, .int .u8 x3] M =
  (Option.bind (intOf? .i64 (AMem.ld (M ++ [AObj.cells [.int .i64 x0_0, .int .i64 x0_1] ⟨false, 0⟩]) (List.length M) 0)) fun x_1 =>
    (Option.bind (intOf? .i64 (AMem.ld (M ++ [AObj.cells [.int .i64 x0_0, .int .i64 x0_1] ⟨false, 0⟩]) (List.length M) 1)) fun x_2 =>
    (Option.bind (L.call 6 [.agg #[.int .i64 x_1, .int .i64 x_2]] []) fun r_3 =>
    (Option.bind (boolOf? (some r_3.1)) fun q_4 =>
    (if (!q_4) = true
    then (Option.bind (L.call 8 [] []) fun r_5 =>
      (Option.bind (boolOf? (some r_5.1)) fun q_6 =>
      some (.bool q_6, (M ++ [AObj.cells [.int .i64 x0_0, .int .i64 x0_1] ⟨false, 0⟩]))))
    else (Option.bind (intOf? .i64 (AMem.ld (M ++ [AObj.cells [.int .i64 x0_0, .int .i64 x0_1] ⟨false, 0⟩]) (List.length M) 0)) fun x_7 =>
      (if (decide (x_7 > 10)) = true
      then (Option.bind (L.call 8 [] []) fun r_8 =>
        (Option.bind (boolOf? (some r_8.1)) fun q_9 =>
        some (.bool q_9, (M ++ [AObj.cells [.int .i64 x0_0, .int .i64 x0_1] ⟨false, 0⟩]))))
      else (Option.bind (intOf? .i64 (AMem.ld (M ++ [AObj.cells [.int .i64 x0_0, .int .i64 x0_1] ⟨false, 0⟩]) (List.length M) 1)) fun x_10 =>
        (if (decide (x_10 > 4)) = true
        then (Option.bind (L.call 8 [] []) fun r_11 =>
          (Option.bind (boolOf? (some r_11.1)) fun q_12 =>
          some (.bool q_12, (M ++ [AObj.cells [.int .i64 x0_0, .int .i64 x0_1] ⟨false, 0⟩]))))
        else (Option.bind (L.call 7 [.slice x2 x2n x2c] (M ++ [AObj.cells [.int .i64 x0_0, .int .i64 x0_1] ⟨false, 0⟩])) fun r_13 =>
          (Option.bind (boolOf? (some r_13.1)) fun q_14 =>
          (if (!q_14) = true
          then (Option.bind (L.call 8 [] []) fun r_15 =>
            (Option.bind (boolOf? (some r_15.1)) fun q_16 =>
            some (.bool q_16, r_13.2)))
          else (Option.bind (intOf? .i64 (AMem.ld r_13.2 (List.length M) 0)) fun x_17 =>
            (Option.bind (intOf? .i64 (AMem.ld r_13.2 (List.length M) 1)) fun x_18 =>
            (Option.bind (L.call 10 [.agg #[.int .i64 x_17, .int .i64 x_18]] []) fun r_19 =>
            (Option.bind (intOf? .i64 (some r_19.1)) fun x_20 =>
            (Option.bind (L.call 9 [.int .i64 x_20] r_13.2) fun r_21 =>
            (Option.bind (ptrOf? (some r_21.1)) fun p_22 =>
            P5_18 L x1 x2 x2n x2c x3 (List.length M) p_22 false 0 r_21.2)))))))))))))))))) := QE5 L b5_18 c5_54 P5_18 (Classical.choose_spec XP5_18) x0_0 x0_1 x1 x2 x2n x2c x3 M
end Go.Proofs.Ytpnknolehckfhaa
