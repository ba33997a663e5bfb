/- What the pieces of some functions come to. -/
import Derived.Test.YtmpgngilhhmlcaaCode
set_option linter.unusedVariables false
set_option maxRecDepth 100000
namespace Go.Proofs.Ytmpgngilhhmlcaa
open Go Go.Ax
/-! #### skylightlaw33.FlushPlays -/
noncomputable def k5_5 (L : Rec) : KT := seqK (code L (.seq (.ops o5_11) (.seq (.ops o5_13) (.seq (.ops o5_15) (.seq (.ops o5_17) (.seq (.seq (.ops o5_20) (.block 0 (.clear zl18 (.loop b5_22)))) (.clear zl24 c5_51)))))) (retK [.tmp 6])) (retK [.tmp 6])
def s5_5 (x1 : Option Addr) (x1n : Nat) (x1c : Nat) (x2 : Option Addr) (x2n : Nat) (x2c : Nat) (x3 : Nat) (x41 : Bool) (M : AMem) : List Value := [junk, .slice x1 x1n x1c, .slice x2 x2n x2c, .pointer (some ⟨x3, 0, none⟩), junk, junk, junk, junk, junk, junk, junk, junk, junk, junk, junk, junk, junk, junk, junk, junk, junk, junk, junk, junk, junk, junk, junk, junk, junk, junk, junk, junk, junk, junk, junk, junk, junk, junk, junk, junk, junk, .bool x41, junk, junk, junk, junk, junk, junk, junk, junk, junk, junk, junk, junk, junk, junk, junk, junk, junk, junk, junk, junk, junk, junk, junk, junk, junk, junk, junk, junk, junk, junk, junk, junk, junk, junk, junk, junk, junk, junk, junk, junk, junk, junk, junk, junk, junk, junk, junk, junk, junk, junk, junk, junk, junk, junk, junk, junk, junk, junk, junk, junk, junk, junk, junk, junk, junk, junk, junk, junk, junk, junk, junk, junk, junk, junk, junk, junk, junk, junk, junk, junk, junk, junk, junk, junk, junk, junk, junk, junk, junk, junk, junk, junk, junk, junk, junk, junk, junk, junk, junk, junk, junk, junk, junk, junk, junk, junk, junk, junk, junk, junk, junk, junk, junk, junk, junk, junk, junk, junk, junk, junk, junk, junk, junk, junk, junk, junk, junk, junk, junk, junk, junk, junk, junk, junk, junk, junk, junk, junk, junk, junk, junk, junk, junk, junk, junk, junk, junk, junk, junk, junk, junk, junk, junk, junk, junk, junk, junk, junk, junk, junk, junk, junk, junk, junk, junk, junk, junk, junk, junk, junk, junk, junk, junk, junk, junk, junk, junk, junk, junk, junk, junk, junk, junk, junk, junk, junk, junk, junk, junk, junk, junk, junk, junk, junk, junk, junk, junk, junk, junk, junk, junk, junk, junk, junk, junk, junk, junk, junk, junk, junk, junk, junk, junk, junk]
theorem XP5_5 : ∃ P : Rec → (Option Addr) → Nat → Nat → (Option Addr) → Nat → Nat → Nat → Bool → AMem → Res, P = fun (L : Rec) (x1 : Option Addr) (x1n : Nat) (x1c : Nat) (x2 : Option Addr) (x2n : Nat) (x2c : Nat) (x3 : Nat) (x41 : Bool) (M : AMem) => code L c5_5 (k5_5 L) (s5_5 x1 x1n x1c x2 x2n x2c x3 x41 M) M := ⟨_, rfl⟩
noncomputable def P5_5 : Rec → (Option Addr) → Nat → Nat → (Option Addr) → Nat → Nat → Nat → Bool → AMem → Res := Classical.choose XP5_5
noncomputable def k5_22 (L : Rec) : KT := blockK 0 (seqK (code L (.clear zl24 c5_51) (retK [.tmp 6])) (retK [.tmp 6]))
def s5_22 (x1 : Option Addr) (x1n : Nat) (x1c : Nat) (x2 : Option Addr) (x2n : Nat) (x2c : Nat) (x3 : Nat) (x7 : Nat) (x9 : Option Addr) (x10 : Option Addr) (x10n : Nat) (x10c : Nat) (x11 : Option Addr) (x11n : Nat) (x11c : Nat) (x12 : Int) (M : AMem) : List Value := [junk, .slice x1 x1n x1c, .slice x2 x2n x2c, .pointer (some ⟨x3, 0, none⟩), junk, junk, junk, .pointer (some ⟨x7, 0, none⟩), junk, .pointer x9, .slice x10 x10n x10c, .slice x11 x11n x11c, .int .i64 x12, junk, junk, junk, junk, junk, junk, junk, junk, junk, junk, junk, junk, junk, junk, junk, junk, junk, junk, junk, junk, junk, junk, junk, junk, junk, junk, junk, junk, junk, junk, junk, junk, junk, junk, junk, junk, junk, junk, junk, junk, junk, junk, junk, junk, junk, junk, junk, junk, junk, junk, junk, junk, junk, junk, junk, junk, junk, junk, junk, junk, junk, junk, junk, junk, junk, junk, junk, junk, junk, junk, junk, junk, junk, junk, junk, junk, junk, junk, junk, junk, junk, junk, junk, junk, junk, junk, junk, junk, junk, junk, junk, junk, junk, junk, junk, junk, junk, junk, junk, junk, junk, junk, junk, junk, junk, junk, junk, junk, junk, junk, junk, junk, junk, junk, junk, junk, junk, junk, junk, junk, junk, junk, junk, junk, junk, junk, junk, junk, junk, junk, junk, junk, junk, junk, junk, junk, junk, junk, junk, junk, junk, junk, junk, junk, junk, junk, junk, junk, junk, junk, junk, junk, junk, junk, junk, junk, junk, junk, junk, junk, junk, junk, junk, junk, junk, junk, junk, junk, junk, junk, junk, junk, junk, junk, junk, junk, junk, junk, junk, junk, junk, junk, junk, junk, junk, junk, junk, junk, junk, junk, junk, junk, junk, junk, junk, junk, junk, junk, junk, junk, junk, junk, junk, junk, junk, junk, junk, junk, junk, junk, junk, junk, junk, junk, junk, junk, junk, junk, junk, junk, junk, junk, junk, junk, junk, junk, junk, junk, junk, junk, junk, junk, junk, junk, junk, junk, junk, junk, junk, junk, junk, junk, junk]
theorem XP5_22 : ∃ P : Rec → (Option Addr) → Nat → Nat → (Option Addr) → Nat → Nat → Nat → Nat → (Option Addr) → (Option Addr) → Nat → Nat → (Option Addr) → Nat → Nat → Int → AMem → Res, P = fun (L : Rec) (x1 : Option Addr) (x1n : Nat) (x1c : Nat) (x2 : Option Addr) (x2n : Nat) (x2c : Nat) (x3 : Nat) (x7 : Nat) (x9 : Option Addr) (x10 : Option Addr) (x10n : Nat) (x10c : Nat) (x11 : Option Addr) (x11n : Nat) (x11c : Nat) (x12 : Int) (M : AMem) => L.loop b5_22 (k5_22 L) (s5_22 x1 x1n x1c x2 x2n x2c x3 x7 x9 x10 x10n x10c x11 x11n x11c x12 M) M := ⟨_, rfl⟩
noncomputable def P5_22 : Rec → (Option Addr) → Nat → Nat → (Option Addr) → Nat → Nat → Nat → Nat → (Option Addr) → (Option Addr) → Nat → Nat → (Option Addr) → Nat → Nat → Int → AMem → Res := Classical.choose XP5_22
noncomputable def k5_33 (L : Rec) : KT := blockK 1 (seqK (code L (.clear zl18 c5_50) (postK zl18 (loopK L b5_22 (blockK 0 (seqK (code L (.clear zl24 c5_51) (retK [.tmp 6])) (retK [.tmp 6])))))) (postK zl18 (loopK L b5_22 (blockK 0 (seqK (code L (.clear zl24 c5_51) (retK [.tmp 6])) (retK [.tmp 6]))))))
def s5_33 (x1 : Option Addr) (x1n : Nat) (x1c : Nat) (x2 : Option Addr) (x2n : Nat) (x2c : Nat) (x3 : Nat) (x7 : Nat) (x9 : Option Addr) (x10 : Option Addr) (x10n : Nat) (x10c : Nat) (x11 : Option Addr) (x11n : Nat) (x11c : Nat) (x12 : Int) (x13 : Nat) (x14 : Bool) (M : AMem) : List Value := [junk, .slice x1 x1n x1c, .slice x2 x2n x2c, .pointer (some ⟨x3, 0, none⟩), junk, junk, junk, .pointer (some ⟨x7, 0, none⟩), junk, .pointer x9, .slice x10 x10n x10c, .slice x11 x11n x11c, .int .i64 x12, .pointer (some ⟨x13, 0, none⟩), .bool x14, junk, junk, junk, junk, junk, junk, junk, junk, junk, junk, junk, junk, junk, junk, junk, junk, junk, junk, junk, junk, junk, junk, junk, junk, junk, junk, junk, junk, junk, junk, junk, junk, junk, junk, junk, junk, junk, junk, junk, junk, junk, junk, junk, junk, junk, junk, junk, junk, junk, junk, junk, junk, junk, junk, junk, junk, junk, junk, junk, junk, junk, junk, junk, junk, junk, junk, junk, junk, junk, junk, junk, junk, junk, junk, junk, junk, junk, junk, junk, junk, junk, junk, junk, junk, junk, junk, junk, junk, junk, junk, junk, junk, junk, junk, junk, junk, junk, junk, junk, junk, junk, junk, junk, junk, junk, junk, junk, junk, junk, junk, junk, junk, junk, junk, junk, junk, junk, junk, junk, junk, junk, junk, junk, junk, junk, junk, junk, junk, junk, junk, junk, junk, junk, junk, junk, junk, junk, junk, junk, junk, junk, junk, junk, junk, junk, junk, junk, junk, junk, junk, junk, junk, junk, junk, junk, junk, junk, junk, junk, junk, junk, junk, junk, junk, junk, junk, junk, junk, junk, junk, junk, junk, junk, junk, junk, junk, junk, junk, junk, junk, junk, junk, junk, junk, junk, junk, junk, junk, junk, junk, junk, junk, junk, junk, junk, junk, junk, junk, junk, junk, junk, junk, junk, junk, junk, junk, junk, junk, junk, junk, junk, junk, junk, junk, junk, junk, junk, junk, junk, junk, junk, junk, junk, junk, junk, junk, junk, junk, junk, junk, junk, junk, junk, junk, junk, junk, junk, junk, junk, junk, junk]
theorem XP5_33 : ∃ P : Rec → (Option Addr) → Nat → Nat → (Option Addr) → Nat → Nat → Nat → Nat → (Option Addr) → (Option Addr) → Nat → Nat → (Option Addr) → Nat → Nat → Int → Nat → Bool → AMem → Res, P = fun (L : Rec) (x1 : Option Addr) (x1n : Nat) (x1c : Nat) (x2 : Option Addr) (x2n : Nat) (x2c : Nat) (x3 : Nat) (x7 : Nat) (x9 : Option Addr) (x10 : Option Addr) (x10n : Nat) (x10c : Nat) (x11 : Option Addr) (x11n : Nat) (x11c : Nat) (x12 : Int) (x13 : Nat) (x14 : Bool) (M : AMem) => code L c5_33 (k5_33 L) (s5_33 x1 x1n x1c x2 x2n x2c x3 x7 x9 x10 x10n x10c x11 x11n x11c x12 x13 x14 M) M := ⟨_, rfl⟩
noncomputable def P5_33 : Rec → (Option Addr) → Nat → Nat → (Option Addr) → Nat → Nat → Nat → Nat → (Option Addr) → (Option Addr) → Nat → Nat → (Option Addr) → Nat → Nat → Int → Nat → Bool → AMem → Res := Classical.choose XP5_33
noncomputable def k5_51 (L : Rec) : KT := retK [.tmp 6]
def s5_51 (x2 : Option Addr) (x2n : Nat) (x2c : Nat) (x7 : Nat) (x9 : Option Addr) (x10 : Option Addr) (x10n : Nat) (x10c : Nat) (x11 : Option Addr) (x11n : Nat) (x11c : Nat) (M : AMem) : List Value := [junk, junk, .slice x2 x2n x2c, junk, junk, junk, junk, .pointer (some ⟨x7, 0, none⟩), junk, .pointer x9, .slice x10 x10n x10c, .slice x11 x11n x11c, junk, junk, junk, junk, junk, junk, junk, junk, junk, junk, junk, junk, junk, junk, junk, junk, junk, junk, junk, junk, junk, junk, junk, junk, junk, junk, junk, junk, junk, junk, junk, junk, junk, junk, junk, junk, junk, junk, junk, junk, junk, junk, junk, junk, junk, junk, junk, junk, junk, junk, junk, junk, junk, junk, junk, junk, junk, junk, junk, junk, junk, junk, junk, junk, junk, junk, junk, junk, junk, junk, junk, junk, junk, junk, junk, junk, junk, junk, junk, junk, junk, junk, junk, junk, junk, junk, junk, junk, junk, junk, junk, junk, junk, junk, junk, junk, junk, junk, junk, junk, junk, junk, junk, junk, junk, junk, junk, junk, junk, junk, junk, junk, junk, junk, junk, junk, junk, junk, junk, junk, junk, junk, junk, junk, junk, junk, junk, junk, junk, junk, junk, junk, junk, junk, junk, junk, junk, junk, junk, junk, junk, junk, junk, junk, junk, junk, junk, junk, junk, junk, junk, junk, junk, junk, junk, junk, junk, junk, junk, junk, junk, junk, junk, junk, junk, junk, junk, junk, junk, junk, junk, junk, junk, junk, junk, junk, junk, junk, junk, junk, junk, junk, junk, junk, junk, junk, junk, junk, junk, junk, junk, junk, junk, junk, junk, junk, junk, junk, junk, junk, junk, junk, junk, junk, junk, junk, junk, junk, junk, junk, junk, junk, junk, junk, junk, junk, junk, junk, junk, junk, junk, junk, junk, junk, junk, junk, junk, junk, junk, junk, junk, junk, junk, junk, junk, junk, junk, junk, junk, junk, junk, junk, junk, junk]
theorem XP5_51 : ∃ P : Rec → (Option Addr) → Nat → Nat → Nat → (Option Addr) → (Option Addr) → Nat → Nat → (Option Addr) → Nat → Nat → AMem → Res, P = fun (L : Rec) (x2 : Option Addr) (x2n : Nat) (x2c : Nat) (x7 : Nat) (x9 : Option Addr) (x10 : Option Addr) (x10n : Nat) (x10c : Nat) (x11 : Option Addr) (x11n : Nat) (x11c : Nat) (M : AMem) => code L c5_51 (k5_51 L) (s5_51 x2 x2n x2c x7 x9 x10 x10n x10c x11 x11n x11c M) M := ⟨_, rfl⟩
noncomputable def P5_51 : Rec → (Option Addr) → Nat → Nat → Nat → (Option Addr) → (Option Addr) → Nat → Nat → (Option Addr) → Nat → Nat → AMem → Res := Classical.choose XP5_51
noncomputable def k5_48 (L : Rec) : KT := blockK 1 (seqK (code L (.clear zl18 c5_50) (postK zl18 (loopK L b5_22 (blockK 0 (seqK (code L (.clear zl24 c5_51) (retK [.tmp 6])) (retK [.tmp 6])))))) (postK zl18 (loopK L b5_22 (blockK 0 (seqK (code L (.clear zl24 c5_51) (retK [.tmp 6])) (retK [.tmp 6]))))))
def s5_48 (x1 : Option Addr) (x1n : Nat) (x1c : Nat) (x2 : Option Addr) (x2n : Nat) (x2c : Nat) (x3 : Nat) (x7 : Nat) (x9 : Option Addr) (x10 : Option Addr) (x10n : Nat) (x10c : Nat) (x11 : Option Addr) (x11n : Nat) (x11c : Nat) (x12 : Int) (x13 : Nat) (M : AMem) : List Value := [junk, .slice x1 x1n x1c, .slice x2 x2n x2c, .pointer (some ⟨x3, 0, none⟩), junk, junk, junk, .pointer (some ⟨x7, 0, none⟩), junk, .pointer x9, .slice x10 x10n x10c, .slice x11 x11n x11c, .int .i64 x12, .pointer (some ⟨x13, 0, none⟩), junk, junk, junk, junk, junk, junk, junk, junk, junk, junk, junk, junk, junk, junk, junk, junk, junk, junk, junk, junk, junk, junk, junk, junk, junk, junk, junk, junk, junk, junk, junk, junk, junk, junk, junk, junk, junk, junk, junk, junk, junk, junk, junk, junk, junk, junk, junk, junk, junk, junk, junk, junk, junk, junk, junk, junk, junk, junk, junk, junk, junk, junk, junk, junk, junk, junk, junk, junk, junk, junk, junk, junk, junk, junk, junk, junk, junk, junk, junk, junk, junk, junk, junk, junk, junk, junk, junk, junk, junk, junk, junk, junk, junk, junk, junk, junk, junk, junk, junk, junk, junk, junk, junk, junk, junk, junk, junk, junk, junk, junk, junk, junk, junk, junk, junk, junk, junk, junk, junk, junk, junk, junk, junk, junk, junk, junk, junk, junk, junk, junk, junk, junk, junk, junk, junk, junk, junk, junk, junk, junk, junk, junk, junk, junk, junk, junk, junk, junk, junk, junk, junk, junk, junk, junk, junk, junk, junk, junk, junk, junk, junk, junk, junk, junk, junk, junk, junk, junk, junk, junk, junk, junk, junk, junk, junk, junk, junk, junk, junk, junk, junk, junk, junk, junk, junk, junk, junk, junk, junk, junk, junk, junk, junk, junk, junk, junk, junk, junk, junk, junk, junk, junk, junk, junk, junk, junk, junk, junk, junk, junk, junk, junk, junk, junk, junk, junk, junk, junk, junk, junk, junk, junk, junk, junk, junk, junk, junk, junk, junk, junk, junk, junk, junk, junk, junk, junk, junk, junk, junk, junk, junk, junk]
theorem XP5_48 : ∃ P : Rec → (Option Addr) → Nat → Nat → (Option Addr) → Nat → Nat → Nat → Nat → (Option Addr) → (Option Addr) → Nat → Nat → (Option Addr) → Nat → Nat → Int → Nat → AMem → Res, P = fun (L : Rec) (x1 : Option Addr) (x1n : Nat) (x1c : Nat) (x2 : Option Addr) (x2n : Nat) (x2c : Nat) (x3 : Nat) (x7 : Nat) (x9 : Option Addr) (x10 : Option Addr) (x10n : Nat) (x10c : Nat) (x11 : Option Addr) (x11n : Nat) (x11c : Nat) (x12 : Int) (x13 : Nat) (M : AMem) => code L c5_48 (k5_48 L) (s5_48 x1 x1n x1c x2 x2n x2c x3 x7 x9 x10 x10n x10c x11 x11n x11c x12 x13 M) M := ⟨_, rfl⟩
noncomputable def P5_48 : Rec → (Option Addr) → Nat → Nat → (Option Addr) → Nat → Nat → Nat → Nat → (Option Addr) → (Option Addr) → Nat → Nat → (Option Addr) → Nat → Nat → Int → Nat → AMem → Res := Classical.choose XP5_48
noncomputable def k5_50 (L : Rec) : KT := postK zl18 (loopK L b5_22 (blockK 0 (seqK (code L (.clear zl24 c5_51) (retK [.tmp 6])) (retK [.tmp 6]))))
def s5_50 (x1 : Option Addr) (x1n : Nat) (x1c : Nat) (x2 : Option Addr) (x2n : Nat) (x2c : Nat) (x3 : Nat) (x7 : Nat) (x9 : Option Addr) (x10 : Option Addr) (x10n : Nat) (x10c : Nat) (x11 : Option Addr) (x11n : Nat) (x11c : Nat) (x12 : Int) (M : AMem) : List Value := [junk, .slice x1 x1n x1c, .slice x2 x2n x2c, .pointer (some ⟨x3, 0, none⟩), junk, junk, junk, .pointer (some ⟨x7, 0, none⟩), junk, .pointer x9, .slice x10 x10n x10c, .slice x11 x11n x11c, .int .i64 x12, junk, junk, junk, junk, junk, junk, junk, junk, junk, junk, junk, junk, junk, junk, junk, junk, junk, junk, junk, junk, junk, junk, junk, junk, junk, junk, junk, junk, junk, junk, junk, junk, junk, junk, junk, junk, junk, junk, junk, junk, junk, junk, junk, junk, junk, junk, junk, junk, junk, junk, junk, junk, junk, junk, junk, junk, junk, junk, junk, junk, junk, junk, junk, junk, junk, junk, junk, junk, junk, junk, junk, junk, junk, junk, junk, junk, junk, junk, junk, junk, junk, junk, junk, junk, junk, junk, junk, junk, junk, junk, junk, junk, junk, junk, junk, junk, junk, junk, junk, junk, junk, junk, junk, junk, junk, junk, junk, junk, junk, junk, junk, junk, junk, junk, junk, junk, junk, junk, junk, junk, junk, junk, junk, junk, junk, junk, junk, junk, junk, junk, junk, junk, junk, junk, junk, junk, junk, junk, junk, junk, junk, junk, junk, junk, junk, junk, junk, junk, junk, junk, junk, junk, junk, junk, junk, junk, junk, junk, junk, junk, junk, junk, junk, junk, junk, junk, junk, junk, junk, junk, junk, junk, junk, junk, junk, junk, junk, junk, junk, junk, junk, junk, junk, junk, junk, junk, junk, junk, junk, junk, junk, junk, junk, junk, junk, junk, junk, junk, junk, junk, junk, junk, junk, junk, junk, junk, junk, junk, junk, junk, junk, junk, junk, junk, junk, junk, junk, junk, junk, junk, junk, junk, junk, junk, junk, junk, junk, junk, junk, junk, junk, junk, junk, junk, junk, junk, junk, junk, junk, junk, junk, junk, junk]
theorem XP5_50 : ∃ P : Rec → (Option Addr) → Nat → Nat → (Option Addr) → Nat → Nat → Nat → Nat → (Option Addr) → (Option Addr) → Nat → Nat → (Option Addr) → Nat → Nat → Int → AMem → Res, P = fun (L : Rec) (x1 : Option Addr) (x1n : Nat) (x1c : Nat) (x2 : Option Addr) (x2n : Nat) (x2c : Nat) (x3 : Nat) (x7 : Nat) (x9 : Option Addr) (x10 : Option Addr) (x10n : Nat) (x10c : Nat) (x11 : Option Addr) (x11n : Nat) (x11c : Nat) (x12 : Int) (M : AMem) => code L c5_50 (k5_50 L) (s5_50 x1 x1n x1c x2 x2n x2c x3 x7 x9 x10 x10n x10c x11 x11n x11c x12 M) M := ⟨_, rfl⟩
noncomputable def P5_50 : Rec → (Option Addr) → Nat → Nat → (Option Addr) → Nat → Nat → Nat → Nat → (Option Addr) → (Option Addr) → Nat → Nat → (Option Addr) → Nat → Nat → Int → AMem → Res := Classical.choose XP5_50
noncomputable def k5_55 (L : Rec) : KT := blockK 2 (seqK (code L (.clear zl22 c5_74) (retK [.tmp 6])) (retK [.tmp 6]))
def s5_55 (x2 : Option Addr) (x2n : Nat) (x2c : Nat) (x7 : Nat) (x9 : Option Addr) (x10 : Option Addr) (x10n : Nat) (x10c : Nat) (x11 : Option Addr) (x11n : Nat) (x11c : Nat) (x16 : Int) (M : AMem) : List Value := [junk, junk, .slice x2 x2n x2c, junk, junk, junk, junk, .pointer (some ⟨x7, 0, none⟩), junk, .pointer x9, .slice x10 x10n x10c, .slice x11 x11n x11c, junk, junk, junk, junk, .int .i64 x16, junk, junk, junk, junk, junk, junk, junk, junk, junk, junk, junk, junk, junk, junk, junk, junk, junk, junk, junk, junk, junk, junk, junk, junk, junk, junk, junk, junk, junk, junk, junk, junk, junk, junk, junk, junk, junk, junk, junk, junk, junk, junk, junk, junk, junk, junk, junk, junk, junk, junk, junk, junk, junk, junk, junk, junk, junk, junk, junk, junk, junk, junk, junk, junk, junk, junk, junk, junk, junk, junk, junk, junk, junk, junk, junk, junk, junk, junk, junk, junk, junk, junk, junk, junk, junk, junk, junk, junk, junk, junk, junk, junk, junk, junk, junk, junk, junk, junk, junk, junk, junk, junk, junk, junk, junk, junk, junk, junk, junk, junk, junk, junk, junk, junk, junk, junk, junk, junk, junk, junk, junk, junk, junk, junk, junk, junk, junk, junk, junk, junk, junk, junk, junk, junk, junk, junk, junk, junk, junk, junk, junk, junk, junk, junk, junk, junk, junk, junk, junk, junk, junk, junk, junk, junk, junk, junk, junk, junk, junk, junk, junk, junk, junk, junk, junk, junk, junk, junk, junk, junk, junk, junk, junk, junk, junk, junk, junk, junk, junk, junk, junk, junk, junk, junk, junk, junk, junk, junk, junk, junk, junk, junk, junk, junk, junk, junk, junk, junk, junk, junk, junk, junk, junk, junk, junk, junk, junk, junk, junk, junk, junk, junk, junk, junk, junk, junk, junk, junk, junk, junk, junk, junk, junk, junk, junk, junk, junk, junk, junk, junk, junk, junk, junk, junk, junk, junk, junk, junk, junk]
theorem XP5_55 : ∃ P : Rec → (Option Addr) → Nat → Nat → Nat → (Option Addr) → (Option Addr) → Nat → Nat → (Option Addr) → Nat → Nat → Int → AMem → Res, P = fun (L : Rec) (x2 : Option Addr) (x2n : Nat) (x2c : Nat) (x7 : Nat) (x9 : Option Addr) (x10 : Option Addr) (x10n : Nat) (x10c : Nat) (x11 : Option Addr) (x11n : Nat) (x11c : Nat) (x16 : Int) (M : AMem) => L.loop b5_55 (k5_55 L) (s5_55 x2 x2n x2c x7 x9 x10 x10n x10c x11 x11n x11c x16 M) M := ⟨_, rfl⟩
noncomputable def P5_55 : Rec → (Option Addr) → Nat → Nat → Nat → (Option Addr) → (Option Addr) → Nat → Nat → (Option Addr) → Nat → Nat → Int → AMem → Res := Classical.choose XP5_55
noncomputable def k5_74 (L : Rec) : KT := retK [.tmp 6]
def s5_74 (x7 : Nat) (x9 : Option Addr) (M : AMem) : List Value := [junk, junk, junk, junk, junk, junk, junk, .pointer (some ⟨x7, 0, none⟩), junk, .pointer x9, junk, junk, junk, junk, junk, junk, junk, junk, junk, junk, junk, junk, junk, junk, junk, junk, junk, junk, junk, junk, junk, junk, junk, junk, junk, junk, junk, junk, junk, junk, junk, junk, junk, junk, junk, junk, junk, junk, junk, junk, junk, junk, junk, junk, junk, junk, junk, junk, junk, junk, junk, junk, junk, junk, junk, junk, junk, junk, junk, junk, junk, junk, junk, junk, junk, junk, junk, junk, junk, junk, junk, junk, junk, junk, junk, junk, junk, junk, junk, junk, junk, junk, junk, junk, junk, junk, junk, junk, junk, junk, junk, junk, junk, junk, junk, junk, junk, junk, junk, junk, junk, junk, junk, junk, junk, junk, junk, junk, junk, junk, junk, junk, junk, junk, junk, junk, junk, junk, junk, junk, junk, junk, junk, junk, junk, junk, junk, junk, junk, junk, junk, junk, junk, junk, junk, junk, junk, junk, junk, junk, junk, junk, junk, junk, junk, junk, junk, junk, junk, junk, junk, junk, junk, junk, junk, junk, junk, junk, junk, junk, junk, junk, junk, junk, junk, junk, junk, junk, junk, junk, junk, junk, junk, junk, junk, junk, junk, junk, junk, junk, junk, junk, junk, junk, junk, junk, junk, junk, junk, junk, junk, junk, junk, junk, junk, junk, junk, junk, junk, junk, junk, junk, junk, junk, junk, junk, junk, junk, junk, junk, junk, junk, junk, junk, junk, junk, junk, junk, junk, junk, junk, junk, junk, junk, junk, junk, junk, junk, junk, junk, junk, junk, junk, junk, junk, junk, junk, junk, junk, junk, junk, junk, junk, junk, junk, junk]
theorem XP5_74 : ∃ P : Rec → Nat → (Option Addr) → AMem → Res, P = fun (L : Rec) (x7 : Nat) (x9 : Option Addr) (M : AMem) => code L c5_74 (k5_74 L) (s5_74 x7 x9 M) M := ⟨_, rfl⟩
noncomputable def P5_74 : Rec → Nat → (Option Addr) → AMem → Res := Classical.choose XP5_74
noncomputable def k5_81 (L : Rec) : KT := seqK (code L (.seq (.draw [] 0 o5_87 [(3, 1), (9, 7), (16, 14)]) (.ret)) (retK [.tmp 6])) (retK [.tmp 6])
def s5_81 (x7 : Nat) (x9 : Option Addr) (x233 : Bool) (M : AMem) : List Value := [junk, junk, junk, junk, junk, junk, junk, .pointer (some ⟨x7, 0, none⟩), junk, .pointer x9, junk, junk, junk, junk, junk, junk, junk, junk, junk, junk, junk, junk, junk, junk, junk, junk, junk, junk, junk, junk, junk, junk, junk, junk, junk, junk, junk, junk, junk, junk, junk, junk, junk, junk, junk, junk, junk, junk, junk, junk, junk, junk, junk, junk, junk, junk, junk, junk, junk, junk, junk, junk, junk, junk, junk, junk, junk, junk, junk, junk, junk, junk, junk, junk, junk, junk, junk, junk, junk, junk, junk, junk, junk, junk, junk, junk, junk, junk, junk, junk, junk, junk, junk, junk, junk, junk, junk, junk, junk, junk, junk, junk, junk, junk, junk, junk, junk, junk, junk, junk, junk, junk, junk, junk, junk, junk, junk, junk, junk, junk, junk, junk, junk, junk, junk, junk, junk, junk, junk, junk, junk, junk, junk, junk, junk, junk, junk, junk, junk, junk, junk, junk, junk, junk, junk, junk, junk, junk, junk, junk, junk, junk, junk, junk, junk, junk, junk, junk, junk, junk, junk, junk, junk, junk, junk, junk, junk, junk, junk, junk, junk, junk, junk, junk, junk, junk, junk, junk, junk, junk, junk, junk, junk, junk, junk, junk, junk, junk, junk, junk, junk, junk, junk, junk, junk, junk, junk, junk, junk, junk, junk, junk, junk, junk, junk, junk, junk, junk, junk, junk, junk, junk, junk, junk, junk, junk, junk, junk, junk, junk, junk, junk, junk, junk, junk, junk, junk, junk, junk, junk, junk, junk, junk, .bool x233, junk, junk, junk, junk, junk, junk, junk, junk, junk, junk, junk, junk, junk, junk, junk, junk, junk, junk, junk, junk, junk, junk]
theorem XP5_81 : ∃ P : Rec → Nat → (Option Addr) → Bool → AMem → Res, P = fun (L : Rec) (x7 : Nat) (x9 : Option Addr) (x233 : Bool) (M : AMem) => code L c5_81 (k5_81 L) (s5_81 x7 x9 x233 M) M := ⟨_, rfl⟩
noncomputable def P5_81 : Rec → Nat → (Option Addr) → Bool → AMem → Res := Classical.choose XP5_81
noncomputable def k5_68 (L : Rec) : KT := blockK 3 (seqK (code L (.clear zl20 c5_73) (postK zl20 (loopK L b5_55 (blockK 2 (seqK (code L (.clear zl22 c5_74) (retK [.tmp 6])) (retK [.tmp 6])))))) (postK zl20 (loopK L b5_55 (blockK 2 (seqK (code L (.clear zl22 c5_74) (retK [.tmp 6])) (retK [.tmp 6]))))))
def s5_68 (x2 : Option Addr) (x2n : Nat) (x2c : Nat) (x7 : Nat) (x9 : Option Addr) (x10 : Option Addr) (x10n : Nat) (x10c : Nat) (x11 : Option Addr) (x11n : Nat) (x11c : Nat) (x16 : Int) (x191 : Bool) (M : AMem) : List Value := [junk, junk, .slice x2 x2n x2c, junk, junk, junk, junk, .pointer (some ⟨x7, 0, none⟩), junk, .pointer x9, .slice x10 x10n x10c, .slice x11 x11n x11c, junk, junk, junk, junk, .int .i64 x16, junk, junk, junk, junk, junk, junk, junk, junk, junk, junk, junk, junk, junk, junk, junk, junk, junk, junk, junk, junk, junk, junk, junk, junk, junk, junk, junk, junk, junk, junk, junk, junk, junk, junk, junk, junk, junk, junk, junk, junk, junk, junk, junk, junk, junk, junk, junk, junk, junk, junk, junk, junk, junk, junk, junk, junk, junk, junk, junk, junk, junk, junk, junk, junk, junk, junk, junk, junk, junk, junk, junk, junk, junk, junk, junk, junk, junk, junk, junk, junk, junk, junk, junk, junk, junk, junk, junk, junk, junk, junk, junk, junk, junk, junk, junk, junk, junk, junk, junk, junk, junk, junk, junk, junk, junk, junk, junk, junk, junk, junk, junk, junk, junk, junk, junk, junk, junk, junk, junk, junk, junk, junk, junk, junk, junk, junk, junk, junk, junk, junk, junk, junk, junk, junk, junk, junk, junk, junk, junk, junk, junk, junk, junk, junk, junk, junk, junk, junk, junk, junk, junk, junk, junk, junk, junk, junk, junk, junk, junk, junk, junk, junk, junk, junk, junk, junk, junk, junk, junk, junk, junk, junk, junk, junk, .bool x191, junk, junk, junk, junk, junk, junk, junk, junk, junk, junk, junk, junk, junk, junk, junk, junk, junk, junk, junk, junk, junk, junk, junk, junk, junk, junk, junk, junk, junk, junk, junk, junk, junk, junk, junk, junk, junk, junk, junk, junk, junk, junk, junk, junk, junk, junk, junk, junk, junk, junk, junk, junk, junk, junk, junk, junk, junk, junk, junk, junk, junk, junk, junk, junk]
theorem XP5_68 : ∃ P : Rec → (Option Addr) → Nat → Nat → Nat → (Option Addr) → (Option Addr) → Nat → Nat → (Option Addr) → Nat → Nat → Int → Bool → AMem → Res, P = fun (L : Rec) (x2 : Option Addr) (x2n : Nat) (x2c : Nat) (x7 : Nat) (x9 : Option Addr) (x10 : Option Addr) (x10n : Nat) (x10c : Nat) (x11 : Option Addr) (x11n : Nat) (x11c : Nat) (x16 : Int) (x191 : Bool) (M : AMem) => code L c5_68 (k5_68 L) (s5_68 x2 x2n x2c x7 x9 x10 x10n x10c x11 x11n x11c x16 x191 M) M := ⟨_, rfl⟩
noncomputable def P5_68 : Rec → (Option Addr) → Nat → Nat → Nat → (Option Addr) → (Option Addr) → Nat → Nat → (Option Addr) → Nat → Nat → Int → Bool → AMem → Res := Classical.choose XP5_68
noncomputable def k5_73 (L : Rec) : KT := postK zl20 (loopK L b5_55 (blockK 2 (seqK (code L (.clear zl22 c5_74) (retK [.tmp 6])) (retK [.tmp 6]))))
def s5_73 (x2 : Option Addr) (x2n : Nat) (x2c : Nat) (x7 : Nat) (x9 : Option Addr) (x10 : Option Addr) (x10n : Nat) (x10c : Nat) (x11 : Option Addr) (x11n : Nat) (x11c : Nat) (x16 : Int) (M : AMem) : List Value := [junk, junk, .slice x2 x2n x2c, junk, junk, junk, junk, .pointer (some ⟨x7, 0, none⟩), junk, .pointer x9, .slice x10 x10n x10c, .slice x11 x11n x11c, junk, junk, junk, junk, .int .i64 x16, junk, junk, junk, junk, junk, junk, junk, junk, junk, junk, junk, junk, junk, junk, junk, junk, junk, junk, junk, junk, junk, junk, junk, junk, junk, junk, junk, junk, junk, junk, junk, junk, junk, junk, junk, junk, junk, junk, junk, junk, junk, junk, junk, junk, junk, junk, junk, junk, junk, junk, junk, junk, junk, junk, junk, junk, junk, junk, junk, junk, junk, junk, junk, junk, junk, junk, junk, junk, junk, junk, junk, junk, junk, junk, junk, junk, junk, junk, junk, junk, junk, junk, junk, junk, junk, junk, junk, junk, junk, junk, junk, junk, junk, junk, junk, junk, junk, junk, junk, junk, junk, junk, junk, junk, junk, junk, junk, junk, junk, junk, junk, junk, junk, junk, junk, junk, junk, junk, junk, junk, junk, junk, junk, junk, junk, junk, junk, junk, junk, junk, junk, junk, junk, junk, junk, junk, junk, junk, junk, junk, junk, junk, junk, junk, junk, junk, junk, junk, junk, junk, junk, junk, junk, junk, junk, junk, junk, junk, junk, junk, junk, junk, junk, junk, junk, junk, junk, junk, junk, junk, junk, junk, junk, junk, junk, junk, junk, junk, junk, junk, junk, junk, junk, junk, junk, junk, junk, junk, junk, junk, junk, junk, junk, junk, junk, junk, junk, junk, junk, junk, junk, junk, junk, junk, junk, junk, junk, junk, junk, junk, junk, junk, junk, junk, junk, junk, junk, junk, junk, junk, junk, junk, junk, junk, junk, junk, junk, junk, junk, junk, junk, junk, junk, junk, junk, junk, junk, junk, junk]
theorem XP5_73 : ∃ P : Rec → (Option Addr) → Nat → Nat → Nat → (Option Addr) → (Option Addr) → Nat → Nat → (Option Addr) → Nat → Nat → Int → AMem → Res, P = fun (L : Rec) (x2 : Option Addr) (x2n : Nat) (x2c : Nat) (x7 : Nat) (x9 : Option Addr) (x10 : Option Addr) (x10n : Nat) (x10c : Nat) (x11 : Option Addr) (x11n : Nat) (x11c : Nat) (x16 : Int) (M : AMem) => code L c5_73 (k5_73 L) (s5_73 x2 x2n x2c x7 x9 x10 x10n x10c x11 x11n x11c x16 M) M := ⟨_, rfl⟩
noncomputable def P5_73 : Rec → (Option Addr) → Nat → Nat → Nat → (Option Addr) → (Option Addr) → Nat → Nat → (Option Addr) → Nat → Nat → Int → AMem → Res := Classical.choose XP5_73
theorem QP5_5_eq (L : Rec) (b5_22 c5_51 : ACode) (P5_5 : Rec → (Option Addr) → Nat → Nat → (Option Addr) → Nat → Nat → Nat → Bool → AMem → Res) (hP5_5 : P5_5 = fun (L : Rec) (x1 : Option Addr) (x1n : Nat) (x1c : Nat) (x2 : Option Addr) (x2n : Nat) (x2c : Nat) (x3 : Nat) (x41 : Bool) (M : AMem) => code L (.cond (.tmp 41) (.seq (.ops o5_7) (.ret)) (.skip)) (seqK (code L (.seq (.ops o5_11) (.seq (.ops o5_13) (.seq (.ops o5_15) (.seq (.ops o5_17) (.seq (.seq (.ops o5_20) (.block 0 (.clear zl18 (.loop b5_22)))) (.clear zl24 c5_51)))))) (retK [.tmp 6])) (retK [.tmp 6])) (s5_5 x1 x1n x1c x2 x2n x2c x3 x41 M) M) (P5_22 : Rec → (Option Addr) → Nat → Nat → (Option Addr) → Nat → Nat → Nat → Nat → (Option Addr) → (Option Addr) → Nat → Nat → (Option Addr) → Nat → Nat → Int → AMem → Res) (hP5_22 : P5_22 = fun (L : Rec) (x1 : Option Addr) (x1n : Nat) (x1c : Nat) (x2 : Option Addr) (x2n : Nat) (x2c : Nat) (x3 : Nat) (x7 : Nat) (x9 : Option Addr) (x10 : Option Addr) (x10n : Nat) (x10c : Nat) (x11 : Option Addr) (x11n : Nat) (x11c : Nat) (x12 : Int) (M : AMem) => L.loop b5_22 (blockK 0 (seqK (code L (.clear zl24 c5_51) (retK [.tmp 6])) (retK [.tmp 6]))) (s5_22 x1 x1n x1c x2 x2n x2c x3 x7 x9 x10 x10n x10c x11 x11n x11c x12 M) M) (x1 : Option Addr) (x1n : Nat) (x1c : Nat) (x2 : Option Addr) (x2n : Nat) (x2c : Nat) (x3 : Nat) (x41 : Bool) (M : AMem) : P5_5 L x1 x1n x1c x2 x2n x2c x3 x41 M =
  (if x41 = true
    then (Option.bind (L.call 8 [] []) fun r_1 =>
      (Option.bind (boolOf? (some r_1.1)) fun q_2 =>
      some (.bool q_2, M)))
    else (Option.bind (intOf? .i64 (AMem.ld M x3 0)) fun x_3 =>
      (Option.bind (intOf? .i64 (AMem.ld M x3 1)) fun x_4 =>
      (Option.bind (L.call 10 [.agg #[.int .i64 x_3, .int .i64 x_4]] []) fun r_5 =>
      (Option.bind (intOf? .i64 (some r_5.1)) fun x_6 =>
      (Option.bind (L.call 25 [.int .i64 x_6] M) fun r_7 =>
      (Option.bind (tupOf? 2 r_7.1) fun cs_8 =>
      (Option.bind (cs_8[0]?) fun u_9 =>
      (Option.bind (aggOf? 3 u_9) fun cs_10 =>
      (Option.bind (sliceOf? (cs_10[0]?)) fun s_11 =>
      (Option.bind (intOf? .i64 (cs_10[1]?)) fun x_12 =>
      (Option.bind (intOf? .i64 (cs_10[2]?)) fun x_13 =>
      (Option.bind (cs_8[1]?) fun u_14 =>
      (Option.bind (boolOf? (some u_14)) fun q_15 =>
      (Option.bind (AMem.wr (r_7.2 ++ [AObj.cells [.slice none 0 0, .int .i64 0, .int .i64 0] ⟨false, 0⟩]) (List.length r_7.2) 0 [.slice s_11.1 s_11.2.1 s_11.2.2, .int .i64 x_12, .int .i64 x_13]) fun M_16 =>
      (Option.bind (intOf? .i64 (AMem.ld M_16 x3 0)) fun x_17 =>
      (Option.bind (intOf? .i64 (AMem.ld M_16 x3 1)) fun x_18 =>
      (Option.bind (L.call 10 [.agg #[.int .i64 x_17, .int .i64 x_18]] []) fun r_19 =>
      (Option.bind (intOf? .i64 (some r_19.1)) fun x_20 =>
      (Option.bind (L.call 9 [.int .i64 x_20] M_16) fun r_21 =>
      (Option.bind (ptrOf? (some r_21.1)) fun p_22 =>
      P5_22 L x1 x1n x1c x2 x2n x2c x3 (List.length r_7.2) p_22 none 0 0 none 0 0 0 r_21.2))))))))))))))))))))) := by
  subst hP5_5; subst hP5_22; kernel_rfl
theorem P5_5_eq (L : Rec) (x1 : Option Addr) (x1n : Nat) (x1c : Nat) (x2 : Option Addr) (x2n : Nat) (x2c : Nat) (x3 : Nat) (x41 : Bool) (M : AMem) : P5_5 L x1 x1n x1c x2 x2n x2c x3 x41 M =
  (if x41 = true
    then (Option.bind (L.call 8 [] []) fun r_1 =>
      (Option.bind (boolOf? (some r_1.1)) fun q_2 =>
      some (.bool q_2, M)))
    else (Option.bind (intOf? .i64 (AMem.ld M x3 0)) fun x_3 =>
      (Option.bind (intOf? .i64 (AMem.ld M x3 1)) fun x_4 =>
      (Option.bind (L.call 10 [.agg #[.int .i64 x_3, .int .i64 x_4]] []) fun r_5 =>
      (Option.bind (intOf? .i64 (some r_5.1)) fun x_6 =>
      (Option.bind (L.call 25 [.int .i64 x_6] M) fun r_7 =>
      (Option.bind (tupOf? 2 r_7.1) fun cs_8 =>
      (Option.bind (cs_8[0]?) fun u_9 =>
      (Option.bind (aggOf? 3 u_9) fun cs_10 =>
      (Option.bind (sliceOf? (cs_10[0]?)) fun s_11 =>
      (Option.bind (intOf? .i64 (cs_10[1]?)) fun x_12 =>
      (Option.bind (intOf? .i64 (cs_10[2]?)) fun x_13 =>
      (Option.bind (cs_8[1]?) fun u_14 =>
      (Option.bind (boolOf? (some u_14)) fun q_15 =>
      (Option.bind (AMem.wr (r_7.2 ++ [AObj.cells [.slice none 0 0, .int .i64 0, .int .i64 0] ⟨false, 0⟩]) (List.length r_7.2) 0 [.slice s_11.1 s_11.2.1 s_11.2.2, .int .i64 x_12, .int .i64 x_13]) fun M_16 =>
      (Option.bind (intOf? .i64 (AMem.ld M_16 x3 0)) fun x_17 =>
      (Option.bind (intOf? .i64 (AMem.ld M_16 x3 1)) fun x_18 =>
      (Option.bind (L.call 10 [.agg #[.int .i64 x_17, .int .i64 x_18]] []) fun r_19 =>
      (Option.bind (intOf? .i64 (some r_19.1)) fun x_20 =>
      (Option.bind (L.call 9 [.int .i64 x_20] M_16) fun r_21 =>
      (Option.bind (ptrOf? (some r_21.1)) fun p_22 =>
      P5_22 L x1 x1n x1c x2 x2n x2c x3 (List.length r_7.2) p_22 none 0 0 none 0 0 0 r_21.2))))))))))))))))))))) := QP5_5_eq L b5_22 c5_51 P5_5 (Classical.choose_spec XP5_5) P5_22 (Classical.choose_spec XP5_22) x1 x1n x1c x2 x2n x2c x3 x41 M
theorem QP5_22_eq (L : Rec) (b5_22 c5_33 c5_50 c5_51 : ACode) (hb : ∀ K t A, L.loop b5_22 K t A = code L (.post (.seq (.seq (.ops o5_25) (.cond (.tmp 55) (.skip) (.exit 0))) (.seq (.block 1 (.seq (.draw f5_32 0 o5_32 [(15, 11)]) (.clear zl17 c5_33))) (.clear zl18 c5_50))) zl18) (loopK L b5_22 K) t A) (P5_22 : Rec → (Option Addr) → Nat → Nat → (Option Addr) → Nat → Nat → Nat → Nat → (Option Addr) → (Option Addr) → Nat → Nat → (Option Addr) → Nat → Nat → Int → AMem → Res) (hP5_22 : P5_22 = fun (L : Rec) (x1 : Option Addr) (x1n : Nat) (x1c : Nat) (x2 : Option Addr) (x2n : Nat) (x2c : Nat) (x3 : Nat) (x7 : Nat) (x9 : Option Addr) (x10 : Option Addr) (x10n : Nat) (x10c : Nat) (x11 : Option Addr) (x11n : Nat) (x11c : Nat) (x12 : Int) (M : AMem) => L.loop b5_22 (blockK 0 (seqK (code L (.clear zl24 c5_51) (retK [.tmp 6])) (retK [.tmp 6]))) (s5_22 x1 x1n x1c x2 x2n x2c x3 x7 x9 x10 x10n x10c x11 x11n x11c x12 M) M) (P5_33 : Rec → (Option Addr) → Nat → Nat → (Option Addr) → Nat → Nat → Nat → Nat → (Option Addr) → (Option Addr) → Nat → Nat → (Option Addr) → Nat → Nat → Int → Nat → Bool → AMem → Res) (hP5_33 : P5_33 = fun (L : Rec) (x1 : Option Addr) (x1n : Nat) (x1c : Nat) (x2 : Option Addr) (x2n : Nat) (x2c : Nat) (x3 : Nat) (x7 : Nat) (x9 : Option Addr) (x10 : Option Addr) (x10n : Nat) (x10c : Nat) (x11 : Option Addr) (x11n : Nat) (x11c : Nat) (x12 : Int) (x13 : Nat) (x14 : Bool) (M : AMem) => code L c5_33 (blockK 1 (seqK (code L (.clear zl18 c5_50) (postK zl18 (loopK L b5_22 (blockK 0 (seqK (code L (.clear zl24 c5_51) (retK [.tmp 6])) (retK [.tmp 6])))))) (postK zl18 (loopK L b5_22 (blockK 0 (seqK (code L (.clear zl24 c5_51) (retK [.tmp 6])) (retK [.tmp 6]))))))) (s5_33 x1 x1n x1c x2 x2n x2c x3 x7 x9 x10 x10n x10c x11 x11n x11c x12 x13 x14 M) M) (P5_51 : Rec → (Option Addr) → Nat → Nat → Nat → (Option Addr) → (Option Addr) → Nat → Nat → (Option Addr) → Nat → Nat → AMem → Res) (hP5_51 : P5_51 = fun (L : Rec) (x2 : Option Addr) (x2n : Nat) (x2c : Nat) (x7 : Nat) (x9 : Option Addr) (x10 : Option Addr) (x10n : Nat) (x10c : Nat) (x11 : Option Addr) (x11n : Nat) (x11c : Nat) (M : AMem) => code L c5_51 (retK [.tmp 6]) (s5_51 x2 x2n x2c x7 x9 x10 x10n x10c x11 x11n x11c M) M) (x1 : Option Addr) (x1n : Nat) (x1c : Nat) (x2 : Option Addr) (x2n : Nat) (x2c : Nat) (x3 : Nat) (x7 : Nat) (x9 : Option Addr) (x10 : Option Addr) (x10n : Nat) (x10c : Nat) (x11 : Option Addr) (x11n : Nat) (x11c : Nat) (x12 : Int) (M : AMem) : P5_22 L x1 x1n x1c x2 x2n x2c x3 x7 x9 x10 x10n x10c x11 x11n x11c x12 M =
  (if (decide (x12 < (Int.ofNat x1n))) = true
    then (Option.bind (intOf? .i64 (AMem.ld (M ++ [AObj.cells [.int .i64 0, .slice none 0 0, .int .i64 0, .bool false, .int .u64 0, .int .i64 0] ⟨false, 0⟩]) x3 0)) fun x_1 =>
      (Option.bind (intOf? .i64 (AMem.ld (M ++ [AObj.cells [.int .i64 0, .slice none 0 0, .int .i64 0, .bool false, .int .u64 0, .int .i64 0] ⟨false, 0⟩]) x3 1)) fun x_2 =>
      (match x1 with
      | some a_3 => (if (0 : Int) ≤ x12 ∧ x12 < (Int.ofNat x1n)
        then (Option.bind (intOf? .i64 (AMem.ld (M ++ [AObj.cells [.int .i64 0, .slice none 0 0, .int .i64 0, .bool false, .int .u64 0, .int .i64 0] ⟨false, 0⟩]) a_3.block (a_3.off + ((Int.toNat x12) * 2)))) fun x_4 =>
          (match x1 with
          | some a_5 => (if (0 : Int) ≤ x12 ∧ x12 < (Int.ofNat x1n)
            then (Option.bind (sliceOf? (AMem.ld (M ++ [AObj.cells [.int .i64 0, .slice none 0 0, .int .i64 0, .bool false, .int .u64 0, .int .i64 0] ⟨false, 0⟩]) a_5.block ((a_5.off + ((Int.toNat x12) * 2)) + 1))) fun s_6 =>
              (Option.bind (L.call 12 [.agg #[.int .i64 x_1, .int .i64 x_2], .int .i64 x_4, .slice s_6.1 s_6.2.1 s_6.2.2] (M ++ [AObj.cells [.int .i64 0, .slice none 0 0, .int .i64 0, .bool false, .int .u64 0, .int .i64 0] ⟨false, 0⟩])) fun r_7 =>
              (Option.bind (tupOf? 2 r_7.1) fun cs_8 =>
              (Option.bind (cs_8[0]?) fun u_9 =>
              (Option.bind (aggOf? 6 u_9) fun cs_10 =>
              (Option.bind (intOf? .i64 (cs_10[0]?)) fun x_11 =>
              (Option.bind (sliceOf? (cs_10[1]?)) fun s_12 =>
              (Option.bind (intOf? .i64 (cs_10[2]?)) fun x_13 =>
              (Option.bind (boolOf? (cs_10[3]?)) fun q_14 =>
              (Option.bind (intOf? .u64 (cs_10[4]?)) fun x_15 =>
              (Option.bind (intOf? .i64 (cs_10[5]?)) fun x_16 =>
              (Option.bind (cs_8[1]?) fun u_17 =>
              (Option.bind (boolOf? (some u_17)) fun q_18 =>
              (Option.bind (AMem.wr r_7.2 (List.length M) 0 [.int .i64 x_11, .slice s_12.1 s_12.2.1 s_12.2.2, .int .i64 x_13, .bool q_14, .int .u64 x_15, .int .i64 x_16]) fun M_19 =>
              (if chkOk [(15, 11)] [(15, (List.length M))] [(11, ((M ++ [AObj.cells [.int .i64 0, .slice none 0 0, .int .i64 0, .bool false, .int .u64 0, .int .i64 0] ⟨false, 0⟩]), r_7.2))] = true
              then P5_33 L x1 x1n x1c x2 x2n x2c x3 x7 x9 x10 x10n x10c x11 x11n x11c x12 (List.length M) q_18 M_19
              else none)))))))))))))))
            else none)
          | none => none))
        else none)
      | none => none)))
    else P5_51 L x2 x2n x2c x7 x9 x10 x10n x10c x11 x11n x11c M) := by
  subst hP5_22; subst hP5_33; subst hP5_51; exact (hb (blockK 0 (seqK (code L (.clear zl24 c5_51) (retK [.tmp 6])) (retK [.tmp 6]))) (s5_22 x1 x1n x1c x2 x2n x2c x3 x7 x9 x10 x10n x10c x11 x11n x11c x12 M) M).trans (by kernel_rfl)
theorem P5_22_eq (L : Rec) (hL : ∀ b K t A, L.loop b K t A = code L b (loopK L b K) t A) (x1 : Option Addr) (x1n : Nat) (x1c : Nat) (x2 : Option Addr) (x2n : Nat) (x2c : Nat) (x3 : Nat) (x7 : Nat) (x9 : Option Addr) (x10 : Option Addr) (x10n : Nat) (x10c : Nat) (x11 : Option Addr) (x11n : Nat) (x11c : Nat) (x12 : Int) (M : AMem) : P5_22 L x1 x1n x1c x2 x2n x2c x3 x7 x9 x10 x10n x10c x11 x11n x11c x12 M =
  (if (decide (x12 < (Int.ofNat x1n))) = true
    then (Option.bind (intOf? .i64 (AMem.ld (M ++ [AObj.cells [.int .i64 0, .slice none 0 0, .int .i64 0, .bool false, .int .u64 0, .int .i64 0] ⟨false, 0⟩]) x3 0)) fun x_1 =>
      (Option.bind (intOf? .i64 (AMem.ld (M ++ [AObj.cells [.int .i64 0, .slice none 0 0, .int .i64 0, .bool false, .int .u64 0, .int .i64 0] ⟨false, 0⟩]) x3 1)) fun x_2 =>
      (match x1 with
      | some a_3 => (if (0 : Int) ≤ x12 ∧ x12 < (Int.ofNat x1n)
        then (Option.bind (intOf? .i64 (AMem.ld (M ++ [AObj.cells [.int .i64 0, .slice none 0 0, .int .i64 0, .bool false, .int .u64 0, .int .i64 0] ⟨false, 0⟩]) a_3.block (a_3.off + ((Int.toNat x12) * 2)))) fun x_4 =>
          (match x1 with
          | some a_5 => (if (0 : Int) ≤ x12 ∧ x12 < (Int.ofNat x1n)
            then (Option.bind (sliceOf? (AMem.ld (M ++ [AObj.cells [.int .i64 0, .slice none 0 0, .int .i64 0, .bool false, .int .u64 0, .int .i64 0] ⟨false, 0⟩]) a_5.block ((a_5.off + ((Int.toNat x12) * 2)) + 1))) fun s_6 =>
              (Option.bind (L.call 12 [.agg #[.int .i64 x_1, .int .i64 x_2], .int .i64 x_4, .slice s_6.1 s_6.2.1 s_6.2.2] (M ++ [AObj.cells [.int .i64 0, .slice none 0 0, .int .i64 0, .bool false, .int .u64 0, .int .i64 0] ⟨false, 0⟩])) fun r_7 =>
              (Option.bind (tupOf? 2 r_7.1) fun cs_8 =>
              (Option.bind (cs_8[0]?) fun u_9 =>
              (Option.bind (aggOf? 6 u_9) fun cs_10 =>
              (Option.bind (intOf? .i64 (cs_10[0]?)) fun x_11 =>
              (Option.bind (sliceOf? (cs_10[1]?)) fun s_12 =>
              (Option.bind (intOf? .i64 (cs_10[2]?)) fun x_13 =>
              (Option.bind (boolOf? (cs_10[3]?)) fun q_14 =>
              (Option.bind (intOf? .u64 (cs_10[4]?)) fun x_15 =>
              (Option.bind (intOf? .i64 (cs_10[5]?)) fun x_16 =>
              (Option.bind (cs_8[1]?) fun u_17 =>
              (Option.bind (boolOf? (some u_17)) fun q_18 =>
              (Option.bind (AMem.wr r_7.2 (List.length M) 0 [.int .i64 x_11, .slice s_12.1 s_12.2.1 s_12.2.2, .int .i64 x_13, .bool q_14, .int .u64 x_15, .int .i64 x_16]) fun M_19 =>
              (if chkOk [(15, 11)] [(15, (List.length M))] [(11, ((M ++ [AObj.cells [.int .i64 0, .slice none 0 0, .int .i64 0, .bool false, .int .u64 0, .int .i64 0] ⟨false, 0⟩]), r_7.2))] = true
              then P5_33 L x1 x1n x1c x2 x2n x2c x3 x7 x9 x10 x10n x10c x11 x11n x11c x12 (List.length M) q_18 M_19
              else none)))))))))))))))
            else none)
          | none => none))
        else none)
      | none => none)))
    else P5_51 L x2 x2n x2c x7 x9 x10 x10n x10c x11 x11n x11c M) := QP5_22_eq L b5_22 c5_33 c5_50 c5_51 (hL b5_22) P5_22 (Classical.choose_spec XP5_22) P5_33 (Classical.choose_spec XP5_33) P5_51 (Classical.choose_spec XP5_51) x1 x1n x1c x2 x2n x2c x3 x7 x9 x10 x10n x10c x11 x11n x11c x12 M
theorem QP5_33_eq (L : Rec) (b5_22 c5_48 c5_50 c5_51 : ACode) (P5_33 : Rec → (Option Addr) → Nat → Nat → (Option Addr) → Nat → Nat → Nat → Nat → (Option Addr) → (Option Addr) → Nat → Nat → (Option Addr) → Nat → Nat → Int → Nat → Bool → AMem → Res) (hP5_33 : P5_33 = fun (L : Rec) (x1 : Option Addr) (x1n : Nat) (x1c : Nat) (x2 : Option Addr) (x2n : Nat) (x2c : Nat) (x3 : Nat) (x7 : Nat) (x9 : Option Addr) (x10 : Option Addr) (x10n : Nat) (x10c : Nat) (x11 : Option Addr) (x11n : Nat) (x11c : Nat) (x12 : Int) (x13 : Nat) (x14 : Bool) (M : AMem) => code L (.seq (.draw [] 0 o5_34 [(6, 12)]) (.seq (.seq (.ops o5_37) (.cond (.tmp 90) (.seq (.ops o5_40) (.ret)) (.skip))) (.seq (.ops o5_44) (.cond (.tmp 91) (.seq (.ops o5_47) (.clear zl16 c5_48)) (.skip))))) (blockK 1 (seqK (code L (.clear zl18 c5_50) (postK zl18 (loopK L b5_22 (blockK 0 (seqK (code L (.clear zl24 c5_51) (retK [.tmp 6])) (retK [.tmp 6])))))) (postK zl18 (loopK L b5_22 (blockK 0 (seqK (code L (.clear zl24 c5_51) (retK [.tmp 6])) (retK [.tmp 6]))))))) (s5_33 x1 x1n x1c x2 x2n x2c x3 x7 x9 x10 x10n x10c x11 x11n x11c x12 x13 x14 M) M) (P5_48 : Rec → (Option Addr) → Nat → Nat → (Option Addr) → Nat → Nat → Nat → Nat → (Option Addr) → (Option Addr) → Nat → Nat → (Option Addr) → Nat → Nat → Int → Nat → AMem → Res) (hP5_48 : P5_48 = fun (L : Rec) (x1 : Option Addr) (x1n : Nat) (x1c : Nat) (x2 : Option Addr) (x2n : Nat) (x2c : Nat) (x3 : Nat) (x7 : Nat) (x9 : Option Addr) (x10 : Option Addr) (x10n : Nat) (x10c : Nat) (x11 : Option Addr) (x11n : Nat) (x11c : Nat) (x12 : Int) (x13 : Nat) (M : AMem) => code L c5_48 (blockK 1 (seqK (code L (.clear zl18 c5_50) (postK zl18 (loopK L b5_22 (blockK 0 (seqK (code L (.clear zl24 c5_51) (retK [.tmp 6])) (retK [.tmp 6])))))) (postK zl18 (loopK L b5_22 (blockK 0 (seqK (code L (.clear zl24 c5_51) (retK [.tmp 6])) (retK [.tmp 6]))))))) (s5_48 x1 x1n x1c x2 x2n x2c x3 x7 x9 x10 x10n x10c x11 x11n x11c x12 x13 M) M) (P5_50 : Rec → (Option Addr) → Nat → Nat → (Option Addr) → Nat → Nat → Nat → Nat → (Option Addr) → (Option Addr) → Nat → Nat → (Option Addr) → Nat → Nat → Int → AMem → Res) (hP5_50 : P5_50 = fun (L : Rec) (x1 : Option Addr) (x1n : Nat) (x1c : Nat) (x2 : Option Addr) (x2n : Nat) (x2c : Nat) (x3 : Nat) (x7 : Nat) (x9 : Option Addr) (x10 : Option Addr) (x10n : Nat) (x10c : Nat) (x11 : Option Addr) (x11n : Nat) (x11c : Nat) (x12 : Int) (M : AMem) => code L c5_50 (postK zl18 (loopK L b5_22 (blockK 0 (seqK (code L (.clear zl24 c5_51) (retK [.tmp 6])) (retK [.tmp 6]))))) (s5_50 x1 x1n x1c x2 x2n x2c x3 x7 x9 x10 x10n x10c x11 x11n x11c x12 M) M) (x1 : Option Addr) (x1n : Nat) (x1c : Nat) (x2 : Option Addr) (x2n : Nat) (x2c : Nat) (x3 : Nat) (x7 : Nat) (x9 : Option Addr) (x10 : Option Addr) (x10n : Nat) (x10c : Nat) (x11 : Option Addr) (x11n : Nat) (x11c : Nat) (x12 : Int) (x13 : Nat) (x14 : Bool) (M : AMem) : P5_33 L x1 x1n x1c x2 x2n x2c x3 x7 x9 x10 x10n x10c x11 x11n x11c x12 x13 x14 M =
  (Option.bind (intOf? .i64 (AMem.ld M x3 0)) fun x_1 =>
    (Option.bind (intOf? .i64 (AMem.ld M x3 1)) fun x_2 =>
    (Option.bind (L.call 22 [.agg #[.int .i64 x_1, .int .i64 x_2]] []) fun r_3 =>
    (Option.bind (aggOf? 2 r_3.1) fun cs_4 =>
    (Option.bind (intOf? .i64 (cs_4[0]?)) fun x_5 =>
    (Option.bind (intOf? .i64 (cs_4[1]?)) fun x_6 =>
    (match x1 with
    | some a_7 => (if (0 : Int) ≤ x12 ∧ x12 < (Int.ofNat x1n)
      then (Option.bind (intOf? .i64 (AMem.ld M a_7.block (a_7.off + ((Int.toNat x12) * 2)))) fun x_8 =>
        (match x1 with
        | some a_9 => (if (0 : Int) ≤ x12 ∧ x12 < (Int.ofNat x1n)
          then (Option.bind (sliceOf? (AMem.ld M a_9.block ((a_9.off + ((Int.toNat x12) * 2)) + 1))) fun s_10 =>
            (Option.bind (L.call 23 [.slice s_10.1 s_10.2.1 s_10.2.2] M) fun r_11 =>
            (Option.bind (sliceOf? (some r_11.1)) fun s_12 =>
            (Option.bind (L.call 21 [.agg #[.int .i64 x_5, .int .i64 x_6], .int .i64 x_8, .slice s_12.1 s_12.2.1 s_12.2.2] r_11.2) fun r_13 =>
            (Option.bind (ptrOf? (some r_13.1)) fun p_14 =>
            (if chkOk [(6, 12)] [(6, a_7.block)] [(12, (M, r_11.2))] = true
            then (if (!((!(Option.isNone p_14)) == x14)) = true
              then some (.bool false, r_13.2)
              else (if x14 = true
                then (Option.bind (rowOf (r_13.2 ++ [AObj.cells [.pointer p_14] ⟨false, 0⟩]) 1 (.slice (some ⟨(List.length r_13.2), 0, none⟩) 1 1)) fun row_15 =>
                  (appendK 1 8 x10 x10n x10c 1 row_15 (r_13.2 ++ [AObj.cells [.pointer p_14] ⟨false, 0⟩]) fun p_16 n_17 c_18 M_19 =>
                  P5_48 L x1 x1n x1c x2 x2n x2c x3 x7 x9 p_16 n_17 c_18 x11 x11n x11c x12 x13 M_19))
                else P5_50 L x1 x1n x1c x2 x2n x2c x3 x7 x9 x10 x10n x10c x11 x11n x11c x12 r_13.2))
            else none))))))
          else none)
        | none => none))
      else none)
    | none => none))))))) := by
  subst hP5_33; subst hP5_48; subst hP5_50; kernel_rfl
theorem P5_33_eq (L : Rec) (x1 : Option Addr) (x1n : Nat) (x1c : Nat) (x2 : Option Addr) (x2n : Nat) (x2c : Nat) (x3 : Nat) (x7 : Nat) (x9 : Option Addr) (x10 : Option Addr) (x10n : Nat) (x10c : Nat) (x11 : Option Addr) (x11n : Nat) (x11c : Nat) (x12 : Int) (x13 : Nat) (x14 : Bool) (M : AMem) : P5_33 L x1 x1n x1c x2 x2n x2c x3 x7 x9 x10 x10n x10c x11 x11n x11c x12 x13 x14 M =
  (Option.bind (intOf? .i64 (AMem.ld M x3 0)) fun x_1 =>
    (Option.bind (intOf? .i64 (AMem.ld M x3 1)) fun x_2 =>
    (Option.bind (L.call 22 [.agg #[.int .i64 x_1, .int .i64 x_2]] []) fun r_3 =>
    (Option.bind (aggOf? 2 r_3.1) fun cs_4 =>
    (Option.bind (intOf? .i64 (cs_4[0]?)) fun x_5 =>
    (Option.bind (intOf? .i64 (cs_4[1]?)) fun x_6 =>
    (match x1 with
    | some a_7 => (if (0 : Int) ≤ x12 ∧ x12 < (Int.ofNat x1n)
      then (Option.bind (intOf? .i64 (AMem.ld M a_7.block (a_7.off + ((Int.toNat x12) * 2)))) fun x_8 =>
        (match x1 with
        | some a_9 => (if (0 : Int) ≤ x12 ∧ x12 < (Int.ofNat x1n)
          then (Option.bind (sliceOf? (AMem.ld M a_9.block ((a_9.off + ((Int.toNat x12) * 2)) + 1))) fun s_10 =>
            (Option.bind (L.call 23 [.slice s_10.1 s_10.2.1 s_10.2.2] M) fun r_11 =>
            (Option.bind (sliceOf? (some r_11.1)) fun s_12 =>
            (Option.bind (L.call 21 [.agg #[.int .i64 x_5, .int .i64 x_6], .int .i64 x_8, .slice s_12.1 s_12.2.1 s_12.2.2] r_11.2) fun r_13 =>
            (Option.bind (ptrOf? (some r_13.1)) fun p_14 =>
            (if chkOk [(6, 12)] [(6, a_7.block)] [(12, (M, r_11.2))] = true
            then (if (!((!(Option.isNone p_14)) == x14)) = true
              then some (.bool false, r_13.2)
              else (if x14 = true
                then (Option.bind (rowOf (r_13.2 ++ [AObj.cells [.pointer p_14] ⟨false, 0⟩]) 1 (.slice (some ⟨(List.length r_13.2), 0, none⟩) 1 1)) fun row_15 =>
                  (appendK 1 8 x10 x10n x10c 1 row_15 (r_13.2 ++ [AObj.cells [.pointer p_14] ⟨false, 0⟩]) fun p_16 n_17 c_18 M_19 =>
                  P5_48 L x1 x1n x1c x2 x2n x2c x3 x7 x9 p_16 n_17 c_18 x11 x11n x11c x12 x13 M_19))
                else P5_50 L x1 x1n x1c x2 x2n x2c x3 x7 x9 x10 x10n x10c x11 x11n x11c x12 r_13.2))
            else none))))))
          else none)
        | none => none))
      else none)
    | none => none))))))) := QP5_33_eq L b5_22 c5_48 c5_50 c5_51 P5_33 (Classical.choose_spec XP5_33) P5_48 (Classical.choose_spec XP5_48) P5_50 (Classical.choose_spec XP5_50) x1 x1n x1c x2 x2n x2c x3 x7 x9 x10 x10n x10c x11 x11n x11c x12 x13 x14 M
theorem QP5_51_eq (L : Rec) (b5_55 c5_74 : ACode) (P5_51 : Rec → (Option Addr) → Nat → Nat → Nat → (Option Addr) → (Option Addr) → Nat → Nat → (Option Addr) → Nat → Nat → AMem → Res) (hP5_51 : P5_51 = fun (L : Rec) (x2 : Option Addr) (x2n : Nat) (x2c : Nat) (x7 : Nat) (x9 : Option Addr) (x10 : Option Addr) (x10n : Nat) (x10c : Nat) (x11 : Option Addr) (x11n : Nat) (x11c : Nat) (M : AMem) => code L (.seq (.seq (.ops o5_53) (.block 2 (.clear zl20 (.loop b5_55)))) (.clear zl22 c5_74)) (retK [.tmp 6]) (s5_51 x2 x2n x2c x7 x9 x10 x10n x10c x11 x11n x11c M) M) (P5_55 : Rec → (Option Addr) → Nat → Nat → Nat → (Option Addr) → (Option Addr) → Nat → Nat → (Option Addr) → Nat → Nat → Int → AMem → Res) (hP5_55 : P5_55 = fun (L : Rec) (x2 : Option Addr) (x2n : Nat) (x2c : Nat) (x7 : Nat) (x9 : Option Addr) (x10 : Option Addr) (x10n : Nat) (x10c : Nat) (x11 : Option Addr) (x11n : Nat) (x11c : Nat) (x16 : Int) (M : AMem) => L.loop b5_55 (blockK 2 (seqK (code L (.clear zl22 c5_74) (retK [.tmp 6])) (retK [.tmp 6]))) (s5_55 x2 x2n x2c x7 x9 x10 x10n x10c x11 x11n x11c x16 M) M) (x2 : Option Addr) (x2n : Nat) (x2c : Nat) (x7 : Nat) (x9 : Option Addr) (x10 : Option Addr) (x10n : Nat) (x10c : Nat) (x11 : Option Addr) (x11n : Nat) (x11c : Nat) (M : AMem) : P5_51 L x2 x2n x2c x7 x9 x10 x10n x10c x11 x11n x11c M =
  P5_55 L x2 x2n x2c x7 x9 x10 x10n x10c x11 x11n x11c 0 M := by
  subst hP5_51; subst hP5_55; kernel_rfl
theorem P5_51_eq (L : Rec) (x2 : Option Addr) (x2n : Nat) (x2c : Nat) (x7 : Nat) (x9 : Option Addr) (x10 : Option Addr) (x10n : Nat) (x10c : Nat) (x11 : Option Addr) (x11n : Nat) (x11c : Nat) (M : AMem) : P5_51 L x2 x2n x2c x7 x9 x10 x10n x10c x11 x11n x11c M =
  P5_55 L x2 x2n x2c x7 x9 x10 x10n x10c x11 x11n x11c 0 M := QP5_51_eq L b5_55 c5_74 P5_51 (Classical.choose_spec XP5_51) P5_55 (Classical.choose_spec XP5_55) x2 x2n x2c x7 x9 x10 x10n x10c x11 x11n x11c M
theorem QP5_48_eq (L : Rec) (b5_22 c5_50 c5_51 : ACode) (P5_48 : Rec → (Option Addr) → Nat → Nat → (Option Addr) → Nat → Nat → Nat → Nat → (Option Addr) → (Option Addr) → Nat → Nat → (Option Addr) → Nat → Nat → Int → Nat → AMem → Res) (hP5_48 : P5_48 = fun (L : Rec) (x1 : Option Addr) (x1n : Nat) (x1c : Nat) (x2 : Option Addr) (x2n : Nat) (x2c : Nat) (x3 : Nat) (x7 : Nat) (x9 : Option Addr) (x10 : Option Addr) (x10n : Nat) (x10c : Nat) (x11 : Option Addr) (x11n : Nat) (x11c : Nat) (x12 : Int) (x13 : Nat) (M : AMem) => code L (.ops o5_48) (blockK 1 (seqK (code L (.clear zl18 c5_50) (postK zl18 (loopK L b5_22 (blockK 0 (seqK (code L (.clear zl24 c5_51) (retK [.tmp 6])) (retK [.tmp 6])))))) (postK zl18 (loopK L b5_22 (blockK 0 (seqK (code L (.clear zl24 c5_51) (retK [.tmp 6])) (retK [.tmp 6]))))))) (s5_48 x1 x1n x1c x2 x2n x2c x3 x7 x9 x10 x10n x10c x11 x11n x11c x12 x13 M) M) (P5_50 : Rec → (Option Addr) → Nat → Nat → (Option Addr) → Nat → Nat → Nat → Nat → (Option Addr) → (Option Addr) → Nat → Nat → (Option Addr) → Nat → Nat → Int → AMem → Res) (hP5_50 : P5_50 = fun (L : Rec) (x1 : Option Addr) (x1n : Nat) (x1c : Nat) (x2 : Option Addr) (x2n : Nat) (x2c : Nat) (x3 : Nat) (x7 : Nat) (x9 : Option Addr) (x10 : Option Addr) (x10n : Nat) (x10c : Nat) (x11 : Option Addr) (x11n : Nat) (x11c : Nat) (x12 : Int) (M : AMem) => code L c5_50 (postK zl18 (loopK L b5_22 (blockK 0 (seqK (code L (.clear zl24 c5_51) (retK [.tmp 6])) (retK [.tmp 6]))))) (s5_50 x1 x1n x1c x2 x2n x2c x3 x7 x9 x10 x10n x10c x11 x11n x11c x12 M) M) (x1 : Option Addr) (x1n : Nat) (x1c : Nat) (x2 : Option Addr) (x2n : Nat) (x2c : Nat) (x3 : Nat) (x7 : Nat) (x9 : Option Addr) (x10 : Option Addr) (x10n : Nat) (x10c : Nat) (x11 : Option Addr) (x11n : Nat) (x11c : Nat) (x12 : Int) (x13 : Nat) (M : AMem) : P5_48 L x1 x1n x1c x2 x2n x2c x3 x7 x9 x10 x10n x10c x11 x11n x11c x12 x13 M =
  (Option.bind (intOf? .i64 (AMem.ld M x13 0)) fun x_1 =>
    (Option.bind (sliceOf? (AMem.ld M x13 1)) fun s_2 =>
    (Option.bind (intOf? .i64 (AMem.ld M x13 2)) fun x_3 =>
    (Option.bind (boolOf? (AMem.ld M x13 3)) fun q_4 =>
    (Option.bind (intOf? .u64 (AMem.ld M x13 4)) fun x_5 =>
    (Option.bind (intOf? .i64 (AMem.ld M x13 5)) fun x_6 =>
    (Option.bind (rowOf (M ++ [AObj.cells [.int .i64 x_1, .slice s_2.1 s_2.2.1 s_2.2.2, .int .i64 x_3, .bool q_4, .int .u64 x_5, .int .i64 x_6] ⟨false, 0⟩]) 6 (.slice (some ⟨(List.length M), 0, none⟩) 1 6)) fun row_7 =>
    (appendK 6 64 x11 x11n x11c 1 row_7 (M ++ [AObj.cells [.int .i64 x_1, .slice s_2.1 s_2.2.1 s_2.2.2, .int .i64 x_3, .bool q_4, .int .u64 x_5, .int .i64 x_6] ⟨false, 0⟩]) fun p_8 n_9 c_10 M_11 =>
    P5_50 L x1 x1n x1c x2 x2n x2c x3 x7 x9 x10 x10n x10c p_8 n_9 c_10 x12 M_11)))))))) := by
  subst hP5_48; subst hP5_50; kernel_rfl
theorem P5_48_eq (L : Rec) (x1 : Option Addr) (x1n : Nat) (x1c : Nat) (x2 : Option Addr) (x2n : Nat) (x2c : Nat) (x3 : Nat) (x7 : Nat) (x9 : Option Addr) (x10 : Option Addr) (x10n : Nat) (x10c : Nat) (x11 : Option Addr) (x11n : Nat) (x11c : Nat) (x12 : Int) (x13 : Nat) (M : AMem) : P5_48 L x1 x1n x1c x2 x2n x2c x3 x7 x9 x10 x10n x10c x11 x11n x11c x12 x13 M =
  (Option.bind (intOf? .i64 (AMem.ld M x13 0)) fun x_1 =>
    (Option.bind (sliceOf? (AMem.ld M x13 1)) fun s_2 =>
    (Option.bind (intOf? .i64 (AMem.ld M x13 2)) fun x_3 =>
    (Option.bind (boolOf? (AMem.ld M x13 3)) fun q_4 =>
    (Option.bind (intOf? .u64 (AMem.ld M x13 4)) fun x_5 =>
    (Option.bind (intOf? .i64 (AMem.ld M x13 5)) fun x_6 =>
    (Option.bind (rowOf (M ++ [AObj.cells [.int .i64 x_1, .slice s_2.1 s_2.2.1 s_2.2.2, .int .i64 x_3, .bool q_4, .int .u64 x_5, .int .i64 x_6] ⟨false, 0⟩]) 6 (.slice (some ⟨(List.length M), 0, none⟩) 1 6)) fun row_7 =>
    (appendK 6 64 x11 x11n x11c 1 row_7 (M ++ [AObj.cells [.int .i64 x_1, .slice s_2.1 s_2.2.1 s_2.2.2, .int .i64 x_3, .bool q_4, .int .u64 x_5, .int .i64 x_6] ⟨false, 0⟩]) fun p_8 n_9 c_10 M_11 =>
    P5_50 L x1 x1n x1c x2 x2n x2c x3 x7 x9 x10 x10n x10c p_8 n_9 c_10 x12 M_11)))))))) := QP5_48_eq L b5_22 c5_50 c5_51 P5_48 (Classical.choose_spec XP5_48) P5_50 (Classical.choose_spec XP5_50) x1 x1n x1c x2 x2n x2c x3 x7 x9 x10 x10n x10c x11 x11n x11c x12 x13 M
theorem QP5_50_eq (L : Rec) (b5_22 c5_51 : ACode) (P5_22 : Rec → (Option Addr) → Nat → Nat → (Option Addr) → Nat → Nat → Nat → Nat → (Option Addr) → (Option Addr) → Nat → Nat → (Option Addr) → Nat → Nat → Int → AMem → Res) (hP5_22 : P5_22 = fun (L : Rec) (x1 : Option Addr) (x1n : Nat) (x1c : Nat) (x2 : Option Addr) (x2n : Nat) (x2c : Nat) (x3 : Nat) (x7 : Nat) (x9 : Option Addr) (x10 : Option Addr) (x10n : Nat) (x10c : Nat) (x11 : Option Addr) (x11n : Nat) (x11c : Nat) (x12 : Int) (M : AMem) => L.loop b5_22 (blockK 0 (seqK (code L (.clear zl24 c5_51) (retK [.tmp 6])) (retK [.tmp 6]))) (s5_22 x1 x1n x1c x2 x2n x2c x3 x7 x9 x10 x10n x10c x11 x11n x11c x12 M) M) (P5_50 : Rec → (Option Addr) → Nat → Nat → (Option Addr) → Nat → Nat → Nat → Nat → (Option Addr) → (Option Addr) → Nat → Nat → (Option Addr) → Nat → Nat → Int → AMem → Res) (hP5_50 : P5_50 = fun (L : Rec) (x1 : Option Addr) (x1n : Nat) (x1c : Nat) (x2 : Option Addr) (x2n : Nat) (x2c : Nat) (x3 : Nat) (x7 : Nat) (x9 : Option Addr) (x10 : Option Addr) (x10n : Nat) (x10c : Nat) (x11 : Option Addr) (x11n : Nat) (x11c : Nat) (x12 : Int) (M : AMem) => code L (.ops o5_50) (postK zl18 (loopK L b5_22 (blockK 0 (seqK (code L (.clear zl24 c5_51) (retK [.tmp 6])) (retK [.tmp 6]))))) (s5_50 x1 x1n x1c x2 x2n x2c x3 x7 x9 x10 x10n x10c x11 x11n x11c x12 M) M) (x1 : Option Addr) (x1n : Nat) (x1c : Nat) (x2 : Option Addr) (x2n : Nat) (x2c : Nat) (x3 : Nat) (x7 : Nat) (x9 : Option Addr) (x10 : Option Addr) (x10n : Nat) (x10c : Nat) (x11 : Option Addr) (x11n : Nat) (x11c : Nat) (x12 : Int) (M : AMem) : P5_50 L x1 x1n x1c x2 x2n x2c x3 x7 x9 x10 x10n x10c x11 x11n x11c x12 M =
  P5_22 L x1 x1n x1c x2 x2n x2c x3 x7 x9 x10 x10n x10c x11 x11n x11c (IntKind.wrap .i64 (x12 + 1)) M := by
  subst hP5_22; subst hP5_50; kernel_rfl
theorem P5_50_eq (L : Rec) (x1 : Option Addr) (x1n : Nat) (x1c : Nat) (x2 : Option Addr) (x2n : Nat) (x2c : Nat) (x3 : Nat) (x7 : Nat) (x9 : Option Addr) (x10 : Option Addr) (x10n : Nat) (x10c : Nat) (x11 : Option Addr) (x11n : Nat) (x11c : Nat) (x12 : Int) (M : AMem) : P5_50 L x1 x1n x1c x2 x2n x2c x3 x7 x9 x10 x10n x10c x11 x11n x11c x12 M =
  P5_22 L x1 x1n x1c x2 x2n x2c x3 x7 x9 x10 x10n x10c x11 x11n x11c (IntKind.wrap .i64 (x12 + 1)) M := QP5_50_eq L b5_22 c5_51 P5_22 (Classical.choose_spec XP5_22) P5_50 (Classical.choose_spec XP5_50) x1 x1n x1c x2 x2n x2c x3 x7 x9 x10 x10n x10c x11 x11n x11c x12 M
theorem QP5_55_eq (L : Rec) (b5_55 c5_68 c5_73 c5_74 : ACode) (hb : ∀ K t A, L.loop b5_55 K t A = code L (.post (.seq (.seq (.ops o5_58) (.cond (.tmp 108) (.skip) (.exit 2))) (.seq (.block 3 (.seq (.ops o5_65) (.seq (.draw [] 0 o5_67 [(21, 16), (35, 30), (50, 45), (56, 45), (70, 65)]) (.clear zl19 c5_68)))) (.clear zl20 c5_73))) zl20) (loopK L b5_55 K) t A) (P5_55 : Rec → (Option Addr) → Nat → Nat → Nat → (Option Addr) → (Option Addr) → Nat → Nat → (Option Addr) → Nat → Nat → Int → AMem → Res) (hP5_55 : P5_55 = fun (L : Rec) (x2 : Option Addr) (x2n : Nat) (x2c : Nat) (x7 : Nat) (x9 : Option Addr) (x10 : Option Addr) (x10n : Nat) (x10c : Nat) (x11 : Option Addr) (x11n : Nat) (x11c : Nat) (x16 : Int) (M : AMem) => L.loop b5_55 (blockK 2 (seqK (code L (.clear zl22 c5_74) (retK [.tmp 6])) (retK [.tmp 6]))) (s5_55 x2 x2n x2c x7 x9 x10 x10n x10c x11 x11n x11c x16 M) M) (P5_74 : Rec → Nat → (Option Addr) → AMem → Res) (hP5_74 : P5_74 = fun (L : Rec) (x7 : Nat) (x9 : Option Addr) (M : AMem) => code L c5_74 (retK [.tmp 6]) (s5_74 x7 x9 M) M) (P5_68 : Rec → (Option Addr) → Nat → Nat → Nat → (Option Addr) → (Option Addr) → Nat → Nat → (Option Addr) → Nat → Nat → Int → Bool → AMem → Res) (hP5_68 : P5_68 = fun (L : Rec) (x2 : Option Addr) (x2n : Nat) (x2c : Nat) (x7 : Nat) (x9 : Option Addr) (x10 : Option Addr) (x10n : Nat) (x10c : Nat) (x11 : Option Addr) (x11n : Nat) (x11c : Nat) (x16 : Int) (x191 : Bool) (M : AMem) => code L c5_68 (blockK 3 (seqK (code L (.clear zl20 c5_73) (postK zl20 (loopK L b5_55 (blockK 2 (seqK (code L (.clear zl22 c5_74) (retK [.tmp 6])) (retK [.tmp 6])))))) (postK zl20 (loopK L b5_55 (blockK 2 (seqK (code L (.clear zl22 c5_74) (retK [.tmp 6])) (retK [.tmp 6]))))))) (s5_68 x2 x2n x2c x7 x9 x10 x10n x10c x11 x11n x11c x16 x191 M) M) (x2 : Option Addr) (x2n : Nat) (x2c : Nat) (x7 : Nat) (x9 : Option Addr) (x10 : Option Addr) (x10n : Nat) (x10c : Nat) (x11 : Option Addr) (x11n : Nat) (x11c : Nat) (x16 : Int) (M : AMem) : P5_55 L x2 x2n x2c x7 x9 x10 x10n x10c x11 x11n x11c x16 M =
  (if (decide (x16 < (Int.ofNat x2n))) = true
    then (if (decide ((Int.ofNat x10n) > 0)) = true
      then (match x2 with
        | some a_1 => (if (0 : Int) ≤ x16 ∧ x16 < (Int.ofNat x2n)
          then (Option.bind (intOf? .u8 (AMem.ld M a_1.block (a_1.off + ((Int.toNat x16) * 1)))) fun x_2 =>
            (if (Int.ofNat x10n) = 0
            then none
            else (match x10 with
              | some a_3 => (if (0 : Int) ≤ (Int.tmod (IntKind.wrap .i64 x_2) (Int.ofNat x10n)) ∧ (Int.tmod (IntKind.wrap .i64 x_2) (Int.ofNat x10n)) < (Int.ofNat x10n)
                then (Option.bind (ptrOf? (AMem.ld M a_3.block (a_3.off + ((Int.toNat (Int.tmod (IntKind.wrap .i64 x_2) (Int.ofNat x10n))) * 1)))) fun p_4 =>
                  (Option.bind (L.call 13 [.pointer p_4, .pointer x9] M) fun r_5 =>
                  (Option.bind (boolOf? (some r_5.1)) fun q_6 =>
                  (match x11 with
                  | some a_7 => (if (0 : Int) ≤ (Int.tmod (IntKind.wrap .i64 x_2) (Int.ofNat x10n)) ∧ (Int.tmod (IntKind.wrap .i64 x_2) (Int.ofNat x10n)) < (Int.ofNat x11n)
                    then (Option.bind (L.call 26 [.pointer (some ⟨a_7.block, (a_7.off + ((Int.toNat (Int.tmod (IntKind.wrap .i64 x_2) (Int.ofNat x10n))) * 6)), none⟩), .pointer (some ⟨x7, 0, none⟩)] r_5.2) fun r_8 =>
                      (Option.bind (boolOf? (some r_8.1)) fun q_9 =>
                      (if (!(q_6 == q_9)) = true
                      then P5_68 L x2 x2n x2c x7 x9 x10 x10n x10c x11 x11n x11c x16 true r_8.2
                      else (match x10 with
                        | some a_10 => (if (0 : Int) ≤ (Int.tmod (IntKind.wrap .i64 x_2) (Int.ofNat x10n)) ∧ (Int.tmod (IntKind.wrap .i64 x_2) (Int.ofNat x10n)) < (Int.ofNat x10n)
                          then (Option.bind (ptrOf? (AMem.ld r_8.2 a_10.block (a_10.off + ((Int.toNat (Int.tmod (IntKind.wrap .i64 x_2) (Int.ofNat x10n))) * 1)))) fun p_11 =>
                            (Option.bind (L.call 14 [.pointer p_11] r_8.2) fun r_12 =>
                            (Option.bind (intOf? .i64 (some r_12.1)) fun x_13 =>
                            (match x11 with
                            | some a_14 => (if (0 : Int) ≤ (Int.tmod (IntKind.wrap .i64 x_2) (Int.ofNat x10n)) ∧ (Int.tmod (IntKind.wrap .i64 x_2) (Int.ofNat x10n)) < (Int.ofNat x11n)
                              then (Option.bind (sliceOf? (AMem.ld r_12.2 a_14.block ((a_14.off + ((Int.toNat (Int.tmod (IntKind.wrap .i64 x_2) (Int.ofNat x10n))) * 6)) + 1))) fun s_15 =>
                                (if (x_13 != (Int.ofNat s_15.2.1)) = true
                                then (if chkOk [(21, 16), (35, 30), (50, 45), (56, 45), (70, 65)] [(21, a_14.block)] [(65, (r_12.2, r_12.2)), (45, (r_12.2, r_12.2)), (30, (r_12.2, r_12.2)), (16, (r_8.2, r_12.2))] = true
                                  then P5_68 L x2 x2n x2c x7 x9 x10 x10n x10c x11 x11n x11c x16 true r_12.2
                                  else none)
                                else (match x10 with
                                  | some a_16 => (if (0 : Int) ≤ (Int.tmod (IntKind.wrap .i64 x_2) (Int.ofNat x10n)) ∧ (Int.tmod (IntKind.wrap .i64 x_2) (Int.ofNat x10n)) < (Int.ofNat x10n)
                                    then (Option.bind (ptrOf? (AMem.ld r_12.2 a_16.block (a_16.off + ((Int.toNat (Int.tmod (IntKind.wrap .i64 x_2) (Int.ofNat x10n))) * 1)))) fun p_17 =>
                                      (Option.bind (L.call 15 [.pointer p_17] r_12.2) fun r_18 =>
                                      (Option.bind (boolOf? (some r_18.1)) fun q_19 =>
                                      (match x11 with
                                      | some a_20 => (if (0 : Int) ≤ (Int.tmod (IntKind.wrap .i64 x_2) (Int.ofNat x10n)) ∧ (Int.tmod (IntKind.wrap .i64 x_2) (Int.ofNat x10n)) < (Int.ofNat x11n)
                                        then (Option.bind (sliceOf? (AMem.ld r_18.2 a_20.block ((a_20.off + ((Int.toNat (Int.tmod (IntKind.wrap .i64 x_2) (Int.ofNat x10n))) * 6)) + 1))) fun s_21 =>
                                          (if (!(q_19 == ((Int.ofNat s_21.2.1) == 0))) = true
                                          then (if chkOk [(21, 16), (35, 30), (50, 45), (56, 45), (70, 65)] [(35, a_20.block), (21, a_14.block)] [(65, (r_18.2, r_18.2)), (45, (r_18.2, r_18.2)), (30, (r_12.2, r_18.2)), (16, (r_8.2, r_12.2))] = true
                                            then P5_68 L x2 x2n x2c x7 x9 x10 x10n x10c x11 x11n x11c x16 true r_18.2
                                            else none)
                                          else (match x10 with
                                            | some a_22 => (if (0 : Int) ≤ (Int.tmod (IntKind.wrap .i64 x_2) (Int.ofNat x10n)) ∧ (Int.tmod (IntKind.wrap .i64 x_2) (Int.ofNat x10n)) < (Int.ofNat x10n)
                                              then (Option.bind (ptrOf? (AMem.ld r_18.2 a_22.block (a_22.off + ((Int.toNat (Int.tmod (IntKind.wrap .i64 x_2) (Int.ofNat x10n))) * 1)))) fun p_23 =>
                                                (Option.bind (L.call 27 [.pointer p_23] r_18.2) fun r_24 =>
                                                (Option.bind (boolOf? (some r_24.1)) fun q_25 =>
                                                (match x11 with
                                                | some a_26 => (if (0 : Int) ≤ (Int.tmod (IntKind.wrap .i64 x_2) (Int.ofNat x10n)) ∧ (Int.tmod (IntKind.wrap .i64 x_2) (Int.ofNat x10n)) < (Int.ofNat x11n)
                                                  then (Option.bind (sliceOf? (AMem.ld r_24.2 a_26.block ((a_26.off + ((Int.toNat (Int.tmod (IntKind.wrap .i64 x_2) (Int.ofNat x10n))) * 6)) + 1))) fun s_27 =>
                                                    (match x11 with
                                                    | some a_28 => (if (0 : Int) ≤ (Int.tmod (IntKind.wrap .i64 x_2) (Int.ofNat x10n)) ∧ (Int.tmod (IntKind.wrap .i64 x_2) (Int.ofNat x10n)) < (Int.ofNat x11n)
                                                      then (Option.bind (intOf? .i64 (AMem.ld r_24.2 a_28.block ((a_28.off + ((Int.toNat (Int.tmod (IntKind.wrap .i64 x_2) (Int.ofNat x10n))) * 6)) + 2))) fun x_29 =>
                                                        (if (!(q_25 == (decide ((Int.ofNat s_27.2.1) < x_29)))) = true
                                                        then (if chkOk [(21, 16), (35, 30), (50, 45), (56, 45), (70, 65)] [(56, a_28.block), (50, a_26.block), (35, a_20.block), (21, a_14.block)] [(65, (r_24.2, r_24.2)), (45, (r_18.2, r_24.2)), (30, (r_12.2, r_18.2)), (16, (r_8.2, r_12.2))] = true
                                                          then P5_68 L x2 x2n x2c x7 x9 x10 x10n x10c x11 x11n x11c x16 true r_24.2
                                                          else none)
                                                        else (match x10 with
                                                          | some a_30 => (if (0 : Int) ≤ (Int.tmod (IntKind.wrap .i64 x_2) (Int.ofNat x10n)) ∧ (Int.tmod (IntKind.wrap .i64 x_2) (Int.ofNat x10n)) < (Int.ofNat x10n)
                                                            then (Option.bind (ptrOf? (AMem.ld r_24.2 a_30.block (a_30.off + ((Int.toNat (Int.tmod (IntKind.wrap .i64 x_2) (Int.ofNat x10n))) * 1)))) fun p_31 =>
                                                              (Option.bind (L.call 18 [.pointer p_31] r_24.2) fun r_32 =>
                                                              (Option.bind (intOf? .i64 (some r_32.1)) fun x_33 =>
                                                              (match x11 with
                                                              | some a_34 => (if (0 : Int) ≤ (Int.tmod (IntKind.wrap .i64 x_2) (Int.ofNat x10n)) ∧ (Int.tmod (IntKind.wrap .i64 x_2) (Int.ofNat x10n)) < (Int.ofNat x11n)
                                                                then (Option.bind (intOf? .i64 (AMem.ld r_32.2 a_34.block ((a_34.off + ((Int.toNat (Int.tmod (IntKind.wrap .i64 x_2) (Int.ofNat x10n))) * 6)) + 5))) fun x_35 =>
                                                                  (if chkOk [(21, 16), (35, 30), (50, 45), (56, 45), (70, 65)] [(70, a_34.block), (56, a_28.block), (50, a_26.block), (35, a_20.block), (21, a_14.block)] [(65, (r_24.2, r_32.2)), (45, (r_18.2, r_24.2)), (30, (r_12.2, r_18.2)), (16, (r_8.2, r_12.2))] = true
                                                                  then P5_68 L x2 x2n x2c x7 x9 x10 x10n x10c x11 x11n x11c x16 (x_33 != x_35) r_32.2
                                                                  else none))
                                                                else none)
                                                              | none => none))))
                                                            else none)
                                                          | none => none)))
                                                      else none)
                                                    | none => none))
                                                  else none)
                                                | none => none))))
                                              else none)
                                            | none => none)))
                                        else none)
                                      | none => none))))
                                    else none)
                                  | none => none)))
                              else none)
                            | none => none))))
                          else none)
                        | none => none))))
                    else none)
                  | none => none))))
                else none)
              | none => none)))
          else none)
        | none => none)
      else P5_74 L x7 x9 M)
    else P5_74 L x7 x9 M) := by
  subst hP5_55; subst hP5_74; subst hP5_68; exact (hb (blockK 2 (seqK (code L (.clear zl22 c5_74) (retK [.tmp 6])) (retK [.tmp 6]))) (s5_55 x2 x2n x2c x7 x9 x10 x10n x10c x11 x11n x11c x16 M) M).trans (by kernel_rfl)
theorem P5_55_eq (L : Rec) (hL : ∀ b K t A, L.loop b K t A = code L b (loopK L b K) t A) (x2 : Option Addr) (x2n : Nat) (x2c : Nat) (x7 : Nat) (x9 : Option Addr) (x10 : Option Addr) (x10n : Nat) (x10c : Nat) (x11 : Option Addr) (x11n : Nat) (x11c : Nat) (x16 : Int) (M : AMem) : P5_55 L x2 x2n x2c x7 x9 x10 x10n x10c x11 x11n x11c x16 M =
  (if (decide (x16 < (Int.ofNat x2n))) = true
    then (if (decide ((Int.ofNat x10n) > 0)) = true
      then (match x2 with
        | some a_1 => (if (0 : Int) ≤ x16 ∧ x16 < (Int.ofNat x2n)
          then (Option.bind (intOf? .u8 (AMem.ld M a_1.block (a_1.off + ((Int.toNat x16) * 1)))) fun x_2 =>
            (if (Int.ofNat x10n) = 0
            then none
            else (match x10 with
              | some a_3 => (if (0 : Int) ≤ (Int.tmod (IntKind.wrap .i64 x_2) (Int.ofNat x10n)) ∧ (Int.tmod (IntKind.wrap .i64 x_2) (Int.ofNat x10n)) < (Int.ofNat x10n)
                then (Option.bind (ptrOf? (AMem.ld M a_3.block (a_3.off + ((Int.toNat (Int.tmod (IntKind.wrap .i64 x_2) (Int.ofNat x10n))) * 1)))) fun p_4 =>
                  (Option.bind (L.call 13 [.pointer p_4, .pointer x9] M) fun r_5 =>
                  (Option.bind (boolOf? (some r_5.1)) fun q_6 =>
                  (match x11 with
                  | some a_7 => (if (0 : Int) ≤ (Int.tmod (IntKind.wrap .i64 x_2) (Int.ofNat x10n)) ∧ (Int.tmod (IntKind.wrap .i64 x_2) (Int.ofNat x10n)) < (Int.ofNat x11n)
                    then (Option.bind (L.call 26 [.pointer (some ⟨a_7.block, (a_7.off + ((Int.toNat (Int.tmod (IntKind.wrap .i64 x_2) (Int.ofNat x10n))) * 6)), none⟩), .pointer (some ⟨x7, 0, none⟩)] r_5.2) fun r_8 =>
                      (Option.bind (boolOf? (some r_8.1)) fun q_9 =>
                      (if (!(q_6 == q_9)) = true
                      then P5_68 L x2 x2n x2c x7 x9 x10 x10n x10c x11 x11n x11c x16 true r_8.2
                      else (match x10 with
                        | some a_10 => (if (0 : Int) ≤ (Int.tmod (IntKind.wrap .i64 x_2) (Int.ofNat x10n)) ∧ (Int.tmod (IntKind.wrap .i64 x_2) (Int.ofNat x10n)) < (Int.ofNat x10n)
                          then (Option.bind (ptrOf? (AMem.ld r_8.2 a_10.block (a_10.off + ((Int.toNat (Int.tmod (IntKind.wrap .i64 x_2) (Int.ofNat x10n))) * 1)))) fun p_11 =>
                            (Option.bind (L.call 14 [.pointer p_11] r_8.2) fun r_12 =>
                            (Option.bind (intOf? .i64 (some r_12.1)) fun x_13 =>
                            (match x11 with
                            | some a_14 => (if (0 : Int) ≤ (Int.tmod (IntKind.wrap .i64 x_2) (Int.ofNat x10n)) ∧ (Int.tmod (IntKind.wrap .i64 x_2) (Int.ofNat x10n)) < (Int.ofNat x11n)
                              then (Option.bind (sliceOf? (AMem.ld r_12.2 a_14.block ((a_14.off + ((Int.toNat (Int.tmod (IntKind.wrap .i64 x_2) (Int.ofNat x10n))) * 6)) + 1))) fun s_15 =>
                                (if (x_13 != (Int.ofNat s_15.2.1)) = true
                                then (if chkOk [(21, 16), (35, 30), (50, 45), (56, 45), (70, 65)] [(21, a_14.block)] [(65, (r_12.2, r_12.2)), (45, (r_12.2, r_12.2)), (30, (r_12.2, r_12.2)), (16, (r_8.2, r_12.2))] = true
                                  then P5_68 L x2 x2n x2c x7 x9 x10 x10n x10c x11 x11n x11c x16 true r_12.2
                                  else none)
                                else (match x10 with
                                  | some a_16 => (if (0 : Int) ≤ (Int.tmod (IntKind.wrap .i64 x_2) (Int.ofNat x10n)) ∧ (Int.tmod (IntKind.wrap .i64 x_2) (Int.ofNat x10n)) < (Int.ofNat x10n)
                                    then (Option.bind (ptrOf? (AMem.ld r_12.2 a_16.block (a_16.off + ((Int.toNat (Int.tmod (IntKind.wrap .i64 x_2) (Int.ofNat x10n))) * 1)))) fun p_17 =>
                                      (Option.bind (L.call 15 [.pointer p_17] r_12.2) fun r_18 =>
                                      (Option.bind (boolOf? (some r_18.1)) fun q_19 =>
                                      (match x11 with
                                      | some a_20 => (if (0 : Int) ≤ (Int.tmod (IntKind.wrap .i64 x_2) (Int.ofNat x10n)) ∧ (Int.tmod (IntKind.wrap .i64 x_2) (Int.ofNat x10n)) < (Int.ofNat x11n)
                                        then (Option.bind (sliceOf? (AMem.ld r_18.2 a_20.block ((a_20.off + ((Int.toNat (Int.tmod (IntKind.wrap .i64 x_2) (Int.ofNat x10n))) * 6)) + 1))) fun s_21 =>
                                          (if (!(q_19 == ((Int.ofNat s_21.2.1) == 0))) = true
                                          then (if chkOk [(21, 16), (35, 30), (50, 45), (56, 45), (70, 65)] [(35, a_20.block), (21, a_14.block)] [(65, (r_18.2, r_18.2)), (45, (r_18.2, r_18.2)), (30, (r_12.2, r_18.2)), (16, (r_8.2, r_12.2))] = true
                                            then P5_68 L x2 x2n x2c x7 x9 x10 x10n x10c x11 x11n x11c x16 true r_18.2
                                            else none)
                                          else (match x10 with
                                            | some a_22 => (if (0 : Int) ≤ (Int.tmod (IntKind.wrap .i64 x_2) (Int.ofNat x10n)) ∧ (Int.tmod (IntKind.wrap .i64 x_2) (Int.ofNat x10n)) < (Int.ofNat x10n)
                                              then (Option.bind (ptrOf? (AMem.ld r_18.2 a_22.block (a_22.off + ((Int.toNat (Int.tmod (IntKind.wrap .i64 x_2) (Int.ofNat x10n))) * 1)))) fun p_23 =>
                                                (Option.bind (L.call 27 [.pointer p_23] r_18.2) fun r_24 =>
                                                (Option.bind (boolOf? (some r_24.1)) fun q_25 =>
                                                (match x11 with
                                                | some a_26 => (if (0 : Int) ≤ (Int.tmod (IntKind.wrap .i64 x_2) (Int.ofNat x10n)) ∧ (Int.tmod (IntKind.wrap .i64 x_2) (Int.ofNat x10n)) < (Int.ofNat x11n)
                                                  then (Option.bind (sliceOf? (AMem.ld r_24.2 a_26.block ((a_26.off + ((Int.toNat (Int.tmod (IntKind.wrap .i64 x_2) (Int.ofNat x10n))) * 6)) + 1))) fun s_27 =>
                                                    (match x11 with
                                                    | some a_28 => (if (0 : Int) ≤ (Int.tmod (IntKind.wrap .i64 x_2) (Int.ofNat x10n)) ∧ (Int.tmod (IntKind.wrap .i64 x_2) (Int.ofNat x10n)) < (Int.ofNat x11n)
                                                      then (Option.bind (intOf? .i64 (AMem.ld r_24.2 a_28.block ((a_28.off + ((Int.toNat (Int.tmod (IntKind.wrap .i64 x_2) (Int.ofNat x10n))) * 6)) + 2))) fun x_29 =>
                                                        (if (!(q_25 == (decide ((Int.ofNat s_27.2.1) < x_29)))) = true
                                                        then (if chkOk [(21, 16), (35, 30), (50, 45), (56, 45), (70, 65)] [(56, a_28.block), (50, a_26.block), (35, a_20.block), (21, a_14.block)] [(65, (r_24.2, r_24.2)), (45, (r_18.2, r_24.2)), (30, (r_12.2, r_18.2)), (16, (r_8.2, r_12.2))] = true
                                                          then P5_68 L x2 x2n x2c x7 x9 x10 x10n x10c x11 x11n x11c x16 true r_24.2
                                                          else none)
                                                        else (match x10 with
                                                          | some a_30 => (if (0 : Int) ≤ (Int.tmod (IntKind.wrap .i64 x_2) (Int.ofNat x10n)) ∧ (Int.tmod (IntKind.wrap .i64 x_2) (Int.ofNat x10n)) < (Int.ofNat x10n)
                                                            then (Option.bind (ptrOf? (AMem.ld r_24.2 a_30.block (a_30.off + ((Int.toNat (Int.tmod (IntKind.wrap .i64 x_2) (Int.ofNat x10n))) * 1)))) fun p_31 =>
                                                              (Option.bind (L.call 18 [.pointer p_31] r_24.2) fun r_32 =>
                                                              (Option.bind (intOf? .i64 (some r_32.1)) fun x_33 =>
                                                              (match x11 with
                                                              | some a_34 => (if (0 : Int) ≤ (Int.tmod (IntKind.wrap .i64 x_2) (Int.ofNat x10n)) ∧ (Int.tmod (IntKind.wrap .i64 x_2) (Int.ofNat x10n)) < (Int.ofNat x11n)
                                                                then (Option.bind (intOf? .i64 (AMem.ld r_32.2 a_34.block ((a_34.off + ((Int.toNat (Int.tmod (IntKind.wrap .i64 x_2) (Int.ofNat x10n))) * 6)) + 5))) fun x_35 =>
                                                                  (if chkOk [(21, 16), (35, 30), (50, 45), (56, 45), (70, 65)] [(70, a_34.block), (56, a_28.block), (50, a_26.block), (35, a_20.block), (21, a_14.block)] [(65, (r_24.2, r_32.2)), (45, (r_18.2, r_24.2)), (30, (r_12.2, r_18.2)), (16, (r_8.2, r_12.2))] = true
                                                                  then P5_68 L x2 x2n x2c x7 x9 x10 x10n x10c x11 x11n x11c x16 (x_33 != x_35) r_32.2
                                                                  else none))
                                                                else none)
                                                              | none => none))))
                                                            else none)
                                                          | none => none)))
                                                      else none)
                                                    | none => none))
                                                  else none)
                                                | none => none))))
                                              else none)
                                            | none => none)))
                                        else none)
                                      | none => none))))
                                    else none)
                                  | none => none)))
                              else none)
                            | none => none))))
                          else none)
                        | none => none))))
                    else none)
                  | none => none))))
                else none)
              | none => none)))
          else none)
        | none => none)
      else P5_74 L x7 x9 M)
    else P5_74 L x7 x9 M) := QP5_55_eq L b5_55 c5_68 c5_73 c5_74 (hL b5_55) P5_55 (Classical.choose_spec XP5_55) P5_74 (Classical.choose_spec XP5_74) P5_68 (Classical.choose_spec XP5_68) x2 x2n x2c x7 x9 x10 x10n x10c x11 x11n x11c x16 M
theorem QP5_74_eq (L : Rec) (c5_81 : ACode) (P5_74 : Rec → Nat → (Option Addr) → AMem → Res) (hP5_74 : P5_74 = fun (L : Rec) (x7 : Nat) (x9 : Option Addr) (M : AMem) => code L (.seq (.ops o5_75) (.seq (.ops o5_77) (.seq (.seq (.ops o5_80) (.clear zl21 c5_81)) (.seq (.draw [] 0 o5_87 [(3, 1), (9, 7), (16, 14)]) (.ret))))) (retK [.tmp 6]) (s5_74 x7 x9 M) M) (P5_81 : Rec → Nat → (Option Addr) → Bool → AMem → Res) (hP5_81 : P5_81 = fun (L : Rec) (x7 : Nat) (x9 : Option Addr) (x233 : Bool) (M : AMem) => code L c5_81 (seqK (code L (.seq (.draw [] 0 o5_87 [(3, 1), (9, 7), (16, 14)]) (.ret)) (retK [.tmp 6])) (retK [.tmp 6])) (s5_81 x7 x9 x233 M) M) (x7 : Nat) (x9 : Option Addr) (M : AMem) : P5_74 L x7 x9 M =
  (Option.bind (L.call 13 [.pointer none, .pointer x9] (M ++ [AObj.cells [.int .i64 0, .slice none 0 0, .int .i64 0, .bool false, .int .u64 0, .int .i64 0] ⟨false, 0⟩])) fun r_1 =>
    (Option.bind (boolOf? (some r_1.1)) fun q_2 =>
    (if q_2 = true
    then P5_81 L x7 x9 true r_1.2
    else (Option.bind (L.call 13 [.pointer (some ⟨(List.length M), 0, none⟩), .pointer x9] r_1.2) fun r_3 =>
      (Option.bind (boolOf? (some r_3.1)) fun q_4 =>
      (if q_4 = true
      then P5_81 L x7 x9 true r_3.2
      else (Option.bind (L.call 15 [.pointer none] r_3.2) fun r_5 =>
        (Option.bind (boolOf? (some r_5.1)) fun q_6 =>
        (if (!q_6) = true
        then P5_81 L x7 x9 true r_5.2
        else (Option.bind (L.call 15 [.pointer (some ⟨(List.length M), 0, none⟩)] r_5.2) fun r_7 =>
          (Option.bind (boolOf? (some r_7.1)) fun q_8 =>
          (if (!q_8) = true
          then P5_81 L x7 x9 true r_7.2
          else (Option.bind (L.call 27 [.pointer none] r_7.2) fun r_9 =>
            (Option.bind (boolOf? (some r_9.1)) fun q_10 =>
            (if q_10 = true
            then P5_81 L x7 x9 true r_9.2
            else (Option.bind (L.call 27 [.pointer (some ⟨(List.length M), 0, none⟩)] r_9.2) fun r_11 =>
              (Option.bind (boolOf? (some r_11.1)) fun q_12 =>
              (if q_12 = true
              then P5_81 L x7 x9 true r_11.2
              else (Option.bind (L.call 14 [.pointer none] r_11.2) fun r_13 =>
                (Option.bind (intOf? .i64 (some r_13.1)) fun x_14 =>
                (Option.bind (L.call 14 [.pointer (some ⟨(List.length M), 0, none⟩)] r_13.2) fun r_15 =>
                (Option.bind (intOf? .i64 (some r_15.1)) fun x_16 =>
                (Option.bind (L.call 18 [.pointer none] r_15.2) fun r_17 =>
                (Option.bind (intOf? .i64 (some r_17.1)) fun x_18 =>
                (Option.bind (L.call 18 [.pointer (some ⟨(List.length M), 0, none⟩)] r_17.2) fun r_19 =>
                (Option.bind (intOf? .i64 (some r_19.1)) fun x_20 =>
                P5_81 L x7 x9 ((IntKind.wrap .i64 ((IntKind.wrap .i64 ((IntKind.wrap .i64 (x_14 + x_16)) + x_18)) + x_20)) != 0) r_19.2)))))))))))))))))))))))))) := by
  subst hP5_74; subst hP5_81; kernel_rfl
theorem P5_74_eq (L : Rec) (x7 : Nat) (x9 : Option Addr) (M : AMem) : P5_74 L x7 x9 M =
  (Option.bind (L.call 13 [.pointer none, .pointer x9] (M ++ [AObj.cells [.int .i64 0, .slice none 0 0, .int .i64 0, .bool false, .int .u64 0, .int .i64 0] ⟨false, 0⟩])) fun r_1 =>
    (Option.bind (boolOf? (some r_1.1)) fun q_2 =>
    (if q_2 = true
    then P5_81 L x7 x9 true r_1.2
    else (Option.bind (L.call 13 [.pointer (some ⟨(List.length M), 0, none⟩), .pointer x9] r_1.2) fun r_3 =>
      (Option.bind (boolOf? (some r_3.1)) fun q_4 =>
      (if q_4 = true
      then P5_81 L x7 x9 true r_3.2
      else (Option.bind (L.call 15 [.pointer none] r_3.2) fun r_5 =>
        (Option.bind (boolOf? (some r_5.1)) fun q_6 =>
        (if (!q_6) = true
        then P5_81 L x7 x9 true r_5.2
        else (Option.bind (L.call 15 [.pointer (some ⟨(List.length M), 0, none⟩)] r_5.2) fun r_7 =>
          (Option.bind (boolOf? (some r_7.1)) fun q_8 =>
          (if (!q_8) = true
          then P5_81 L x7 x9 true r_7.2
          else (Option.bind (L.call 27 [.pointer none] r_7.2) fun r_9 =>
            (Option.bind (boolOf? (some r_9.1)) fun q_10 =>
            (if q_10 = true
            then P5_81 L x7 x9 true r_9.2
            else (Option.bind (L.call 27 [.pointer (some ⟨(List.length M), 0, none⟩)] r_9.2) fun r_11 =>
              (Option.bind (boolOf? (some r_11.1)) fun q_12 =>
              (if q_12 = true
              then P5_81 L x7 x9 true r_11.2
              else (Option.bind (L.call 14 [.pointer none] r_11.2) fun r_13 =>
                (Option.bind (intOf? .i64 (some r_13.1)) fun x_14 =>
                (Option.bind (L.call 14 [.pointer (some ⟨(List.length M), 0, none⟩)] r_13.2) fun r_15 =>
                (Option.bind (intOf? .i64 (some r_15.1)) fun x_16 =>
                (Option.bind (L.call 18 [.pointer none] r_15.2) fun r_17 =>
                (Option.bind (intOf? .i64 (some r_17.1)) fun x_18 =>
                (Option.bind (L.call 18 [.pointer (some ⟨(List.length M), 0, none⟩)] r_17.2) fun r_19 =>
                (Option.bind (intOf? .i64 (some r_19.1)) fun x_20 =>
                P5_81 L x7 x9 ((IntKind.wrap .i64 ((IntKind.wrap .i64 ((IntKind.wrap .i64 (x_14 + x_16)) + x_18)) + x_20)) != 0) r_19.2)))))))))))))))))))))))))) := QP5_74_eq L c5_81 P5_74 (Classical.choose_spec XP5_74) P5_81 (Classical.choose_spec XP5_81) x7 x9 M
theorem QP5_81_eq (L : Rec) (P5_81 : Rec → Nat → (Option Addr) → Bool → AMem → Res) (hP5_81 : P5_81 = fun (L : Rec) (x7 : Nat) (x9 : Option Addr) (x233 : Bool) (M : AMem) => code L (.cond (.tmp 233) (.seq (.ops o5_83) (.ret)) (.skip)) (seqK (code L (.seq (.draw [] 0 o5_87 [(3, 1), (9, 7), (16, 14)]) (.ret)) (retK [.tmp 6])) (retK [.tmp 6])) (s5_81 x7 x9 x233 M) M) (x7 : Nat) (x9 : Option Addr) (x233 : Bool) (M : AMem) : P5_81 L x7 x9 x233 M =
  (if x233 = true
    then some (.bool false, M)
    else (Option.bind (L.call 17 [.pointer x9, .int .i64 0, .int .i64 1000] M) fun r_1 =>
      (Option.bind (sliceOf? (some r_1.1)) fun s_2 =>
      (Option.bind (sliceOf? (AMem.ld r_1.2 x7 0)) fun s_3 =>
      (Option.bind (L.call 16 [.slice s_2.1 s_2.2.1 s_2.2.2, .slice s_3.1 s_3.2.1 s_3.2.2] r_1.2) fun r_4 =>
      (Option.bind (boolOf? (some r_4.1)) fun q_5 =>
      (if q_5 = true
      then (Option.bind (L.call 20 [.pointer x9] r_4.2) fun r_6 =>
        (Option.bind (intOf? .i64 (some r_6.1)) fun x_7 =>
        (Option.bind (intOf? .i64 (AMem.ld r_6.2 x7 1)) fun x_8 =>
        (if (x_7 == x_8) = true
        then (Option.bind (L.call 19 [.pointer x9] r_6.2) fun r_9 =>
          (Option.bind (intOf? .i64 (some r_9.1)) fun x_10 =>
          (Option.bind (intOf? .i64 (AMem.ld r_9.2 x7 2)) fun x_11 =>
          (if (x_10 == x_11) = true
          then (Option.bind (L.call 8 [] []) fun r_12 =>
            (Option.bind (boolOf? (some r_12.1)) fun q_13 =>
            (if chkOk [(3, 1), (9, 7), (16, 14)] [(16, x7), (9, x7), (3, x7)] [(14, (r_6.2, r_9.2)), (7, (r_4.2, r_6.2)), (1, (M, r_1.2))] = true
            then some (.bool q_13, r_9.2)
            else none)))
          else (if chkOk [(3, 1), (9, 7), (16, 14)] [(16, x7), (9, x7), (3, x7)] [(14, (r_6.2, r_9.2)), (7, (r_4.2, r_6.2)), (1, (M, r_1.2))] = true
            then some (.bool false, r_9.2)
            else none)))))
        else (if chkOk [(3, 1), (9, 7), (16, 14)] [(9, x7), (3, x7)] [(14, (r_6.2, r_6.2)), (7, (r_4.2, r_6.2)), (1, (M, r_1.2))] = true
          then some (.bool false, r_6.2)
          else none)))))
      else (if chkOk [(3, 1), (9, 7), (16, 14)] [(3, x7)] [(14, (r_4.2, r_4.2)), (7, (r_4.2, r_4.2)), (1, (M, r_1.2))] = true
        then some (.bool false, r_4.2)
        else none)))))))) := by
  subst hP5_81; kernel_rfl
theorem P5_81_eq (L : Rec) (x7 : Nat) (x9 : Option Addr) (x233 : Bool) (M : AMem) : P5_81 L x7 x9 x233 M =
  (if x233 = true
    then some (.bool false, M)
    else (Option.bind (L.call 17 [.pointer x9, .int .i64 0, .int .i64 1000] M) fun r_1 =>
      (Option.bind (sliceOf? (some r_1.1)) fun s_2 =>
      (Option.bind (sliceOf? (AMem.ld r_1.2 x7 0)) fun s_3 =>
      (Option.bind (L.call 16 [.slice s_2.1 s_2.2.1 s_2.2.2, .slice s_3.1 s_3.2.1 s_3.2.2] r_1.2) fun r_4 =>
      (Option.bind (boolOf? (some r_4.1)) fun q_5 =>
      (if q_5 = true
      then (Option.bind (L.call 20 [.pointer x9] r_4.2) fun r_6 =>
        (Option.bind (intOf? .i64 (some r_6.1)) fun x_7 =>
        (Option.bind (intOf? .i64 (AMem.ld r_6.2 x7 1)) fun x_8 =>
        (if (x_7 == x_8) = true
        then (Option.bind (L.call 19 [.pointer x9] r_6.2) fun r_9 =>
          (Option.bind (intOf? .i64 (some r_9.1)) fun x_10 =>
          (Option.bind (intOf? .i64 (AMem.ld r_9.2 x7 2)) fun x_11 =>
          (if (x_10 == x_11) = true
          then (Option.bind (L.call 8 [] []) fun r_12 =>
            (Option.bind (boolOf? (some r_12.1)) fun q_13 =>
            (if chkOk [(3, 1), (9, 7), (16, 14)] [(16, x7), (9, x7), (3, x7)] [(14, (r_6.2, r_9.2)), (7, (r_4.2, r_6.2)), (1, (M, r_1.2))] = true
            then some (.bool q_13, r_9.2)
            else none)))
          else (if chkOk [(3, 1), (9, 7), (16, 14)] [(16, x7), (9, x7), (3, x7)] [(14, (r_6.2, r_9.2)), (7, (r_4.2, r_6.2)), (1, (M, r_1.2))] = true
            then some (.bool false, r_9.2)
            else none)))))
        else (if chkOk [(3, 1), (9, 7), (16, 14)] [(9, x7), (3, x7)] [(14, (r_6.2, r_6.2)), (7, (r_4.2, r_6.2)), (1, (M, r_1.2))] = true
          then some (.bool false, r_6.2)
          else none)))))
      else (if chkOk [(3, 1), (9, 7), (16, 14)] [(3, x7)] [(14, (r_4.2, r_4.2)), (7, (r_4.2, r_4.2)), (1, (M, r_1.2))] = true
        then some (.bool false, r_4.2)
        else none)))))))) := QP5_81_eq L P5_81 (Classical.choose_spec XP5_81) x7 x9 x233 M
theorem QP5_68_eq (L : Rec) (b5_55 c5_73 c5_74 : ACode) (P5_68 : Rec → (Option Addr) → Nat → Nat → Nat → (Option Addr) → (Option Addr) → Nat → Nat → (Option Addr) → Nat → Nat → Int → Bool → AMem → Res) (hP5_68 : P5_68 = fun (L : Rec) (x2 : Option Addr) (x2n : Nat) (x2c : Nat) (x7 : Nat) (x9 : Option Addr) (x10 : Option Addr) (x10n : Nat) (x10c : Nat) (x11 : Option Addr) (x11n : Nat) (x11c : Nat) (x16 : Int) (x191 : Bool) (M : AMem) => code L (.cond (.tmp 191) (.seq (.ops o5_70) (.ret)) (.skip)) (blockK 3 (seqK (code L (.clear zl20 c5_73) (postK zl20 (loopK L b5_55 (blockK 2 (seqK (code L (.clear zl22 c5_74) (retK [.tmp 6])) (retK [.tmp 6])))))) (postK zl20 (loopK L b5_55 (blockK 2 (seqK (code L (.clear zl22 c5_74) (retK [.tmp 6])) (retK [.tmp 6]))))))) (s5_68 x2 x2n x2c x7 x9 x10 x10n x10c x11 x11n x11c x16 x191 M) M) (P5_73 : Rec → (Option Addr) → Nat → Nat → Nat → (Option Addr) → (Option Addr) → Nat → Nat → (Option Addr) → Nat → Nat → Int → AMem → Res) (hP5_73 : P5_73 = fun (L : Rec) (x2 : Option Addr) (x2n : Nat) (x2c : Nat) (x7 : Nat) (x9 : Option Addr) (x10 : Option Addr) (x10n : Nat) (x10c : Nat) (x11 : Option Addr) (x11n : Nat) (x11c : Nat) (x16 : Int) (M : AMem) => code L c5_73 (postK zl20 (loopK L b5_55 (blockK 2 (seqK (code L (.clear zl22 c5_74) (retK [.tmp 6])) (retK [.tmp 6]))))) (s5_73 x2 x2n x2c x7 x9 x10 x10n x10c x11 x11n x11c x16 M) M) (x2 : Option Addr) (x2n : Nat) (x2c : Nat) (x7 : Nat) (x9 : Option Addr) (x10 : Option Addr) (x10n : Nat) (x10c : Nat) (x11 : Option Addr) (x11n : Nat) (x11c : Nat) (x16 : Int) (x191 : Bool) (M : AMem) : P5_68 L x2 x2n x2c x7 x9 x10 x10n x10c x11 x11n x11c x16 x191 M =
  (if x191 = true
    then some (.bool false, M)
    else P5_73 L x2 x2n x2c x7 x9 x10 x10n x10c x11 x11n x11c x16 M) := by
  subst hP5_68; subst hP5_73; kernel_rfl
theorem P5_68_eq (L : Rec) (x2 : Option Addr) (x2n : Nat) (x2c : Nat) (x7 : Nat) (x9 : Option Addr) (x10 : Option Addr) (x10n : Nat) (x10c : Nat) (x11 : Option Addr) (x11n : Nat) (x11c : Nat) (x16 : Int) (x191 : Bool) (M : AMem) : P5_68 L x2 x2n x2c x7 x9 x10 x10n x10c x11 x11n x11c x16 x191 M =
  (if x191 = true
    then some (.bool false, M)
    else P5_73 L x2 x2n x2c x7 x9 x10 x10n x10c x11 x11n x11c x16 M) := QP5_68_eq L b5_55 c5_73 c5_74 P5_68 (Classical.choose_spec XP5_68) P5_73 (Classical.choose_spec XP5_73) x2 x2n x2c x7 x9 x10 x10n x10c x11 x11n x11c x16 x191 M
theorem QP5_73_eq (L : Rec) (b5_55 c5_74 : ACode) (P5_55 : Rec → (Option Addr) → Nat → Nat → Nat → (Option Addr) → (Option Addr) → Nat → Nat → (Option Addr) → Nat → Nat → Int → AMem → Res) (hP5_55 : P5_55 = fun (L : Rec) (x2 : Option Addr) (x2n : Nat) (x2c : Nat) (x7 : Nat) (x9 : Option Addr) (x10 : Option Addr) (x10n : Nat) (x10c : Nat) (x11 : Option Addr) (x11n : Nat) (x11c : Nat) (x16 : Int) (M : AMem) => L.loop b5_55 (blockK 2 (seqK (code L (.clear zl22 c5_74) (retK [.tmp 6])) (retK [.tmp 6]))) (s5_55 x2 x2n x2c x7 x9 x10 x10n x10c x11 x11n x11c x16 M) M) (P5_73 : Rec → (Option Addr) → Nat → Nat → Nat → (Option Addr) → (Option Addr) → Nat → Nat → (Option Addr) → Nat → Nat → Int → AMem → Res) (hP5_73 : P5_73 = fun (L : Rec) (x2 : Option Addr) (x2n : Nat) (x2c : Nat) (x7 : Nat) (x9 : Option Addr) (x10 : Option Addr) (x10n : Nat) (x10c : Nat) (x11 : Option Addr) (x11n : Nat) (x11c : Nat) (x16 : Int) (M : AMem) => code L (.ops o5_73) (postK zl20 (loopK L b5_55 (blockK 2 (seqK (code L (.clear zl22 c5_74) (retK [.tmp 6])) (retK [.tmp 6]))))) (s5_73 x2 x2n x2c x7 x9 x10 x10n x10c x11 x11n x11c x16 M) M) (x2 : Option Addr) (x2n : Nat) (x2c : Nat) (x7 : Nat) (x9 : Option Addr) (x10 : Option Addr) (x10n : Nat) (x10c : Nat) (x11 : Option Addr) (x11n : Nat) (x11c : Nat) (x16 : Int) (M : AMem) : P5_73 L x2 x2n x2c x7 x9 x10 x10n x10c x11 x11n x11c x16 M =
  P5_55 L x2 x2n x2c x7 x9 x10 x10n x10c x11 x11n x11c (IntKind.wrap .i64 (x16 + 1)) M := by
  subst hP5_55; subst hP5_73; kernel_rfl
theorem P5_73_eq (L : Rec) (x2 : Option Addr) (x2n : Nat) (x2c : Nat) (x7 : Nat) (x9 : Option Addr) (x10 : Option Addr) (x10n : Nat) (x10c : Nat) (x11 : Option Addr) (x11n : Nat) (x11c : Nat) (x16 : Int) (M : AMem) : P5_73 L x2 x2n x2c x7 x9 x10 x10n x10c x11 x11n x11c x16 M =
  P5_55 L x2 x2n x2c x7 x9 x10 x10n x10c x11 x11n x11c (IntKind.wrap .i64 (x16 + 1)) M := QP5_73_eq L b5_55 c5_74 P5_55 (Classical.choose_spec XP5_55) P5_73 (Classical.choose_spec XP5_73) x2 x2n x2c x7 x9 x10 x10n x10c x11 x11n x11c x16 M
theorem QE5 (L : Rec) (b5_22 c5_5 c5_51 : ACode) (P5_5 : Rec → (Option Addr) → Nat → Nat → (Option Addr) → Nat → Nat → Nat → Bool → AMem → Res) (hP5_5 : P5_5 = fun (L : Rec) (x1 : Option Addr) (x1n : Nat) (x1c : Nat) (x2 : Option Addr) (x2n : Nat) (x2c : Nat) (x3 : Nat) (x41 : Bool) (M : AMem) => code L c5_5 (seqK (code L (.seq (.ops o5_11) (.seq (.ops o5_13) (.seq (.ops o5_15) (.seq (.ops o5_17) (.seq (.seq (.ops o5_20) (.block 0 (.clear zl18 (.loop b5_22)))) (.clear zl24 c5_51)))))) (retK [.tmp 6])) (retK [.tmp 6])) (s5_5 x1 x1n x1c x2 x2n x2c x3 x41 M) M) (x0_0 : Int) (x0_1 : Int) (x1 : Option Addr) (x1n : Nat) (x1c : Nat) (x2 : Option Addr) (x2n : Nat) (x2c : Nat) (M : AMem) : enterF L ⟨256, [.tmp 6], .seq (.ops o5_1) (.seq (.seq (.ops o5_4) (.clear zl23 c5_5)) (.seq (.ops o5_11) (.seq (.ops o5_13) (.seq (.ops o5_15) (.seq (.ops o5_17) (.seq (.seq (.ops o5_20) (.block 0 (.clear zl18 (.loop b5_22)))) (.clear zl24 c5_51)))))))⟩ [.agg #[.int .i64 x0_0, .int .i64 x0_1], .slice x1 x1n x1c, .slice x2 x2n x2c] M =
  (Option.bind (intOf? .i64 (AMem.ld (M ++ [AObj.cells [.int .i64 x0_0, .int .i64 x0_1] ⟨false, 0⟩]) (List.length M) 0)) fun x_1 =>
    (Option.bind (intOf? .i64 (AMem.ld (M ++ [AObj.cells [.int .i64 x0_0, .int .i64 x0_1] ⟨false, 0⟩]) (List.length M) 1)) fun x_2 =>
    (Option.bind (L.call 6 [.agg #[.int .i64 x_1, .int .i64 x_2]] []) fun r_3 =>
    (Option.bind (boolOf? (some r_3.1)) fun q_4 =>
    (if q_4 = true
    then (Option.bind (intOf? .i64 (AMem.ld (M ++ [AObj.cells [.int .i64 x0_0, .int .i64 x0_1] ⟨false, 0⟩]) (List.length M) 0)) fun x_5 =>
      (if (decide (x_5 > 20)) = true
      then P5_5 L x1 x1n x1c x2 x2n x2c (List.length M) true (M ++ [AObj.cells [.int .i64 x0_0, .int .i64 x0_1] ⟨false, 0⟩])
      else (Option.bind (intOf? .i64 (AMem.ld (M ++ [AObj.cells [.int .i64 x0_0, .int .i64 x0_1] ⟨false, 0⟩]) (List.length M) 1)) fun x_6 =>
        (if (decide (x_6 > 5)) = true
        then P5_5 L x1 x1n x1c x2 x2n x2c (List.length M) true (M ++ [AObj.cells [.int .i64 x0_0, .int .i64 x0_1] ⟨false, 0⟩])
        else (Option.bind (L.call 7 [.slice x1 x1n x1c] (M ++ [AObj.cells [.int .i64 x0_0, .int .i64 x0_1] ⟨false, 0⟩])) fun r_7 =>
          (Option.bind (boolOf? (some r_7.1)) fun q_8 =>
          (if (!q_8) = true
          then P5_5 L x1 x1n x1c x2 x2n x2c (List.length M) true r_7.2
          else P5_5 L x1 x1n x1c x2 x2n x2c (List.length M) (decide ((Int.ofNat x2n) > 150)) r_7.2)))))))
    else (Option.bind (L.call 7 [.slice x1 x1n x1c] (M ++ [AObj.cells [.int .i64 x0_0, .int .i64 x0_1] ⟨false, 0⟩])) fun r_9 =>
      (Option.bind (boolOf? (some r_9.1)) fun q_10 =>
      (if (!q_10) = true
      then P5_5 L x1 x1n x1c x2 x2n x2c (List.length M) true r_9.2
      else P5_5 L x1 x1n x1c x2 x2n x2c (List.length M) (decide ((Int.ofNat x2n) > 150)) r_9.2)))))))) := by
  subst hP5_5; kernel_rfl
theorem E5 (L : Rec) (x0_0 : Int) (x0_1 : Int) (x1 : Option Addr) (x1n : Nat) (x1c : Nat) (x2 : Option Addr) (x2n : Nat) (x2c : Nat) (M : AMem) : enterF L a5 [.agg #[.int .i64 x0_0, .int .i64 x0_1], .slice x1 x1n x1c, .slice x2 x2n x2c] M =
  (Option.bind (intOf? .i64 (AMem.ld (M ++ [AObj.cells [.int .i64 x0_0, .int .i64 x0_1] ⟨false, 0⟩]) (List.length M) 0)) fun x_1 =>
    (Option.bind (intOf? .i64 (AMem.ld (M ++ [AObj.cells [.int .i64 x0_0, .int .i64 x0_1] ⟨false, 0⟩]) (List.length M) 1)) fun x_2 =>
    (Option.bind (L.call 6 [.agg #[.int .i64 x_1, .int .i64 x_2]] []) fun r_3 =>
    (Option.bind (boolOf? (some r_3.1)) fun q_4 =>
    (if q_4 = true
    then (Option.bind (intOf? .i64 (AMem.ld (M ++ [AObj.cells [.int .i64 x0_0, .int .i64 x0_1] ⟨false, 0⟩]) (List.length M) 0)) fun x_5 =>
      (if (decide (x_5 > 20)) = true
      then P5_5 L x1 x1n x1c x2 x2n x2c (List.length M) true (M ++ [AObj.cells [.int .i64 x0_0, .int .i64 x0_1] ⟨false, 0⟩])
      else (Option.bind (intOf? .i64 (AMem.ld (M ++ [AObj.cells [.int .i64 x0_0, .int .i64 x0_1] ⟨false, 0⟩]) (List.length M) 1)) fun x_6 =>
        (if (decide (x_6 > 5)) = true
        then P5_5 L x1 x1n x1c x2 x2n x2c (List.length M) true (M ++ [AObj.cells [.int .i64 x0_0, .int .i64 x0_1] ⟨false, 0⟩])
        else (Option.bind (L.call 7 [.slice x1 x1n x1c] (M ++ [AObj.cells [.int .i64 x0_0, .int .i64 x0_1] ⟨false, 0⟩])) fun r_7 =>
          (Option.bind (boolOf? (some r_7.1)) fun q_8 =>
          (if (!q_8) = true
          then P5_5 L x1 x1n x1c x2 x2n x2c (List.length M) true r_7.2
          else P5_5 L x1 x1n x1c x2 x2n x2c (List.length M) (decide ((Int.ofNat x2n) > 150)) r_7.2)))))))
    else (Option.bind (L.call 7 [.slice x1 x1n x1c] (M ++ [AObj.cells [.int .i64 x0_0, .int .i64 x0_1] ⟨false, 0⟩])) fun r_9 =>
      (Option.bind (boolOf? (some r_9.1)) fun q_10 =>
      (if (!q_10) = true
      then P5_5 L x1 x1n x1c x2 x2n x2c (List.length M) true r_9.2
      else P5_5 L x1 x1n x1c x2 x2n x2c (List.length M) (decide ((Int.ofNat x2n) > 150)) r_9.2)))))))) := QE5 L b5_22 c5_5 c5_51 P5_5 (Classical.choose_spec XP5_5) x0_0 x0_1 x1 x1n x1c x2 x2n x2c M
end Go.Proofs.Ytmpgngilhhmlcaa
