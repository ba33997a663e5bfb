/- What the pieces of some functions come to. -/
import Derived.Test.YtjcmnchkgnmooaaCode
set_option linter.unusedVariables false
set_option maxRecDepth 100000
namespace Go.Proofs.Ytjcmnchkgnmooaa
open Go Go.Ax
/-! #### skylightlaw32.CombineAll -/
noncomputable def k3_12 (L : Rec) : KT := retK [.tmp 6]
def s3_12 (x2 : Option Addr) (x2n : Nat) (x2c : Nat) (x3 : Nat) (x7 : Int) (M : AMem) : List Value := [junk, junk, .slice x2 x2n x2c, .pointer (some ⟨x3, 0, none⟩), junk, junk, junk, .int .i64 x7, junk, junk, junk, junk, junk, junk, junk, junk, junk, junk, junk, junk, junk, junk, junk, junk, junk, junk, junk, junk, junk, junk, junk, junk, junk, junk, junk, junk, junk, junk, junk, junk, junk, junk, junk, junk, junk, junk, junk, junk, junk, junk, junk, junk, junk, junk, junk, junk, junk, junk, junk, junk, junk, junk, junk, junk, junk, junk, junk, junk, junk, junk, junk, junk, junk, junk, junk, junk, junk, junk, junk, junk, junk, junk, junk, junk, junk, junk, junk, junk, junk, junk, junk, junk, junk, junk, junk, junk, junk, junk, junk, junk, junk, junk, junk, junk, junk, junk, junk, junk, junk, junk, junk, junk, junk, junk, junk, junk, junk, junk, junk, junk, junk, junk, junk, junk, junk, junk, junk, junk, junk, junk, junk, junk, junk, junk, junk, junk, junk, junk, junk, junk, junk, junk, junk, junk, junk, junk, junk, junk, junk, junk, junk, junk, junk, junk, junk, junk, junk, junk, junk, junk, junk, junk, junk, junk, junk, junk, junk, junk, junk, junk, junk, junk, junk, junk, junk, junk, junk, junk, junk, junk, junk, junk, junk, junk, junk, junk, junk, junk, junk, junk, junk, junk, junk, junk, junk, junk, junk, junk, junk, junk, junk, junk, junk, junk, junk, junk, junk, junk, junk, junk, junk, junk, junk, junk, junk, junk, junk, junk, junk, junk, junk, junk, junk, junk, junk, junk, junk, junk, junk, junk, junk, junk, junk, junk, junk, junk, junk, junk, junk]
theorem XP3_12 : ∃ P : Rec → (Option Addr) → Nat → Nat → Nat → Int → AMem → Res, P = fun (L : Rec) (x2 : Option Addr) (x2n : Nat) (x2c : Nat) (x3 : Nat) (x7 : Int) (M : AMem) => code L c3_12 (k3_12 L) (s3_12 x2 x2n x2c x3 x7 M) M := ⟨_, rfl⟩
noncomputable def P3_12 : Rec → (Option Addr) → Nat → Nat → Nat → Int → AMem → Res := Classical.choose XP3_12
noncomputable def k3_20 (L : Rec) : KT := blockK 0 (seqK (code L (.clear zl9 c3_84) (retK [.tmp 6])) (retK [.tmp 6]))
def s3_20 (x2 : Option Addr) (x2n : Nat) (x2c : Nat) (x3 : Nat) (x7 : Int) (x8 : Option Addr) (x9 : Nat) (x10 : Nat) (x11 : Int) (M : AMem) : List Value := [junk, junk, .slice x2 x2n x2c, .pointer (some ⟨x3, 0, none⟩), junk, junk, junk, .int .i64 x7, .pointer x8, .pointer (some ⟨x9, 0, none⟩), .pointer (some ⟨x10, 0, none⟩), .int .i64 x11, junk, junk, junk, junk, junk, junk, junk, junk, junk, junk, junk, junk, junk, junk, junk, junk, junk, junk, junk, junk, junk, junk, junk, junk, junk, junk, junk, junk, junk, junk, junk, junk, junk, junk, junk, junk, junk, junk, junk, junk, junk, junk, junk, junk, junk, junk, junk, junk, junk, junk, junk, junk, junk, junk, junk, junk, junk, junk, junk, junk, junk, junk, junk, junk, junk, junk, junk, junk, junk, junk, junk, junk, junk, junk, junk, junk, junk, junk, junk, junk, junk, junk, junk, junk, junk, junk, junk, junk, junk, junk, junk, junk, junk, junk, junk, junk, junk, junk, junk, junk, junk, junk, junk, junk, junk, junk, junk, junk, junk, junk, junk, junk, junk, junk, junk, junk, junk, junk, junk, junk, junk, junk, junk, junk, junk, junk, junk, junk, junk, junk, junk, junk, junk, junk, junk, junk, junk, junk, junk, junk, junk, junk, junk, junk, junk, junk, junk, junk, junk, junk, junk, junk, junk, junk, junk, junk, junk, junk, junk, junk, junk, junk, junk, junk, junk, junk, junk, junk, junk, junk, junk, junk, junk, junk, junk, junk, junk, junk, junk, junk, junk, junk, junk, junk, junk, junk, junk, junk, junk, junk, junk, junk, junk, junk, junk, junk, junk, junk, junk, junk, junk, junk, junk, junk, junk, junk, junk, junk, junk, junk, junk, junk, junk, junk, junk, junk, junk, junk, junk, junk, junk, junk, junk, junk, junk, junk, junk]
theorem XP3_20 : ∃ P : Rec → (Option Addr) → Nat → Nat → Nat → Int → (Option Addr) → Nat → Nat → Int → AMem → Res, P = fun (L : Rec) (x2 : Option Addr) (x2n : Nat) (x2c : Nat) (x3 : Nat) (x7 : Int) (x8 : Option Addr) (x9 : Nat) (x10 : Nat) (x11 : Int) (M : AMem) => L.loop b3_20 (k3_20 L) (s3_20 x2 x2n x2c x3 x7 x8 x9 x10 x11 M) M := ⟨_, rfl⟩
noncomputable def P3_20 : Rec → (Option Addr) → Nat → Nat → Nat → Int → (Option Addr) → Nat → Nat → Int → AMem → Res := Classical.choose XP3_20
noncomputable def k3_38 (L : Rec) : KT := seqK (code L (.exit 1) (seqK (code L (.seq (.ops o3_52) (.seq (.seq (.ops o3_55) (.block 2 (.clear zl1 (.loop b3_57)))) (.clear zl3 c3_76))) (blockK 1 (seqK (code L (.clear zl4 c3_83) (postK zl4 (loopK L b3_20 (blockK 0 (seqK (code L (.clear zl9 c3_84) (retK [.tmp 6])) (retK [.tmp 6])))))) (postK zl4 (loopK L b3_20 (blockK 0 (seqK (code L (.clear zl9 c3_84) (retK [.tmp 6])) (retK [.tmp 6])))))))) (blockK 1 (seqK (code L (.clear zl4 c3_83) (postK zl4 (loopK L b3_20 (blockK 0 (seqK (code L (.clear zl9 c3_84) (retK [.tmp 6])) (retK [.tmp 6])))))) (postK zl4 (loopK L b3_20 (blockK 0 (seqK (code L (.clear zl9 c3_84) (retK [.tmp 6])) (retK [.tmp 6]))))))))) (seqK (code L (.seq (.ops o3_52) (.seq (.seq (.ops o3_55) (.block 2 (.clear zl1 (.loop b3_57)))) (.clear zl3 c3_76))) (blockK 1 (seqK (code L (.clear zl4 c3_83) (postK zl4 (loopK L b3_20 (blockK 0 (seqK (code L (.clear zl9 c3_84) (retK [.tmp 6])) (retK [.tmp 6])))))) (postK zl4 (loopK L b3_20 (blockK 0 (seqK (code L (.clear zl9 c3_84) (retK [.tmp 6])) (retK [.tmp 6])))))))) (blockK 1 (seqK (code L (.clear zl4 c3_83) (postK zl4 (loopK L b3_20 (blockK 0 (seqK (code L (.clear zl9 c3_84) (retK [.tmp 6])) (retK [.tmp 6])))))) (postK zl4 (loopK L b3_20 (blockK 0 (seqK (code L (.clear zl9 c3_84) (retK [.tmp 6])) (retK [.tmp 6]))))))))
def s3_38 (x2 : Option Addr) (x2n : Nat) (x2c : Nat) (x3 : Nat) (x7 : Int) (x8 : Option Addr) (x9 : Nat) (x10 : Nat) (x11 : Int) (x12 : Nat) (x66 : Bool) (M : AMem) : List Value := [junk, junk, .slice x2 x2n x2c, .pointer (some ⟨x3, 0, none⟩), junk, junk, junk, .int .i64 x7, .pointer x8, .pointer (some ⟨x9, 0, none⟩), .pointer (some ⟨x10, 0, none⟩), .int .i64 x11, .pointer (some ⟨x12, 0, none⟩), junk, junk, junk, junk, junk, junk, junk, junk, junk, junk, junk, junk, junk, junk, junk, junk, junk, junk, junk, junk, junk, junk, junk, junk, junk, junk, junk, junk, junk, junk, junk, junk, junk, junk, junk, junk, junk, junk, junk, junk, junk, junk, junk, junk, junk, junk, junk, junk, junk, junk, junk, junk, junk, .bool x66, junk, junk, junk, junk, junk, junk, junk, junk, junk, junk, junk, junk, junk, junk, junk, junk, junk, junk, junk, junk, junk, junk, junk, junk, junk, junk, junk, junk, junk, junk, junk, junk, junk, junk, junk, junk, junk, junk, junk, junk, junk, junk, junk, junk, junk, junk, junk, junk, junk, junk, junk, junk, junk, junk, junk, junk, junk, junk, junk, junk, junk, junk, junk, junk, junk, junk, junk, junk, junk, junk, junk, junk, junk, junk, junk, junk, junk, junk, junk, junk, junk, junk, junk, junk, junk, junk, junk, junk, junk, junk, junk, junk, junk, junk, junk, junk, junk, junk, junk, junk, junk, junk, junk, junk, junk, junk, junk, junk, junk, junk, junk, junk, junk, junk, junk, junk, junk, junk, junk, junk, junk, junk, junk, junk, junk, junk, junk, junk, junk, junk, junk, junk, junk, junk, junk, junk, junk, junk, junk, junk, junk, junk, junk, junk, junk, junk, junk, junk, junk, junk, junk, junk, junk, junk, junk, junk, junk, junk, junk, junk, junk, junk, junk, junk, junk, junk, junk, junk, junk, junk, junk, junk]
theorem XP3_38 : ∃ P : Rec → (Option Addr) → Nat → Nat → Nat → Int → (Option Addr) → Nat → Nat → Int → Nat → Bool → AMem → Res, P = fun (L : Rec) (x2 : Option Addr) (x2n : Nat) (x2c : Nat) (x3 : Nat) (x7 : Int) (x8 : Option Addr) (x9 : Nat) (x10 : Nat) (x11 : Int) (x12 : Nat) (x66 : Bool) (M : AMem) => code L c3_38 (k3_38 L) (s3_38 x2 x2n x2c x3 x7 x8 x9 x10 x11 x12 x66 M) M := ⟨_, rfl⟩
noncomputable def P3_38 : Rec → (Option Addr) → Nat → Nat → Nat → Int → (Option Addr) → Nat → Nat → Int → Nat → Bool → AMem → Res := Classical.choose XP3_38
noncomputable def k3_57 (L : Rec) : KT := blockK 2 (seqK (code L (.clear zl3 c3_76) (blockK 1 (seqK (code L (.clear zl4 c3_83) (postK zl4 (loopK L b3_20 (blockK 0 (seqK (code L (.clear zl9 c3_84) (retK [.tmp 6])) (retK [.tmp 6])))))) (postK zl4 (loopK L b3_20 (blockK 0 (seqK (code L (.clear zl9 c3_84) (retK [.tmp 6])) (retK [.tmp 6])))))))) (blockK 1 (seqK (code L (.clear zl4 c3_83) (postK zl4 (loopK L b3_20 (blockK 0 (seqK (code L (.clear zl9 c3_84) (retK [.tmp 6])) (retK [.tmp 6])))))) (postK zl4 (loopK L b3_20 (blockK 0 (seqK (code L (.clear zl9 c3_84) (retK [.tmp 6])) (retK [.tmp 6]))))))))
def s3_57 (x2 : Option Addr) (x2n : Nat) (x2c : Nat) (x3 : Nat) (x7 : Int) (x8 : Option Addr) (x9 : Nat) (x10 : Nat) (x11 : Int) (x12 : Nat) (x13 : Option Addr) (x13n : Nat) (x13c : Nat) (x14 : Int) (M : AMem) : List Value := [junk, junk, .slice x2 x2n x2c, .pointer (some ⟨x3, 0, none⟩), junk, junk, junk, .int .i64 x7, .pointer x8, .pointer (some ⟨x9, 0, none⟩), .pointer (some ⟨x10, 0, none⟩), .int .i64 x11, .pointer (some ⟨x12, 0, none⟩), .slice x13 x13n x13c, .int .i64 x14, junk, junk, junk, junk, junk, junk, junk, junk, junk, junk, junk, junk, junk, junk, junk, junk, junk, junk, junk, junk, junk, junk, junk, junk, junk, junk, junk, junk, junk, junk, junk, junk, junk, junk, junk, junk, junk, junk, junk, junk, junk, junk, junk, junk, junk, junk, junk, junk, junk, junk, junk, junk, junk, junk, junk, junk, junk, junk, junk, junk, junk, junk, junk, junk, junk, junk, junk, junk, junk, junk, junk, junk, junk, junk, junk, junk, junk, junk, junk, junk, junk, junk, junk, junk, junk, junk, junk, junk, junk, junk, junk, junk, junk, junk, junk, junk, junk, junk, junk, junk, junk, junk, junk, junk, junk, junk, junk, junk, junk, junk, junk, junk, junk, junk, junk, junk, junk, junk, junk, junk, junk, junk, junk, junk, junk, junk, junk, junk, junk, junk, junk, junk, junk, junk, junk, junk, junk, junk, junk, junk, junk, junk, junk, junk, junk, junk, junk, junk, junk, junk, junk, junk, junk, junk, junk, junk, junk, junk, junk, junk, junk, junk, junk, junk, junk, junk, junk, junk, junk, junk, junk, junk, junk, junk, junk, junk, junk, junk, junk, junk, junk, junk, junk, junk, junk, junk, junk, junk, junk, junk, junk, junk, junk, junk, junk, junk, junk, junk, junk, junk, junk, junk, junk, junk, junk, junk, junk, junk, junk, junk, junk, junk, junk, junk, junk, junk, junk, junk, junk, junk, junk, junk, junk, junk]
theorem XP3_57 : ∃ P : Rec → (Option Addr) → Nat → Nat → Nat → Int → (Option Addr) → Nat → Nat → Int → Nat → (Option Addr) → Nat → Nat → Int → AMem → Res, P = fun (L : Rec) (x2 : Option Addr) (x2n : Nat) (x2c : Nat) (x3 : Nat) (x7 : Int) (x8 : Option Addr) (x9 : Nat) (x10 : Nat) (x11 : Int) (x12 : Nat) (x13 : Option Addr) (x13n : Nat) (x13c : Nat) (x14 : Int) (M : AMem) => L.loop b3_57 (k3_57 L) (s3_57 x2 x2n x2c x3 x7 x8 x9 x10 x11 x12 x13 x13n x13c x14 M) M := ⟨_, rfl⟩
noncomputable def P3_57 : Rec → (Option Addr) → Nat → Nat → Nat → Int → (Option Addr) → Nat → Nat → Int → Nat → (Option Addr) → Nat → Nat → Int → AMem → Res := Classical.choose XP3_57
noncomputable def k3_84 (L : Rec) : KT := retK [.tmp 6]
def s3_84 (x3 : Nat) (x7 : Int) (x8 : Option Addr) (x9 : Nat) (x10 : Nat) (M : AMem) : List Value := [junk, junk, junk, .pointer (some ⟨x3, 0, none⟩), junk, junk, junk, .int .i64 x7, .pointer x8, .pointer (some ⟨x9, 0, none⟩), .pointer (some ⟨x10, 0, none⟩), junk, junk, junk, junk, junk, junk, junk, junk, junk, junk, junk, junk, junk, junk, junk, junk, junk, junk, junk, junk, junk, junk, junk, junk, junk, junk, junk, junk, junk, junk, junk, junk, junk, junk, junk, junk, junk, junk, junk, junk, junk, junk, junk, junk, junk, junk, junk, junk, junk, junk, junk, junk, junk, junk, junk, junk, junk, junk, junk, junk, junk, junk, junk, junk, junk, junk, junk, junk, junk, junk, junk, junk, junk, junk, junk, junk, junk, junk, junk, junk, junk, junk, junk, junk, junk, junk, junk, junk, junk, junk, junk, junk, junk, junk, junk, junk, junk, junk, junk, junk, junk, junk, junk, junk, junk, junk, junk, junk, junk, junk, junk, junk, junk, junk, junk, junk, junk, junk, junk, junk, junk, junk, junk, junk, junk, junk, junk, junk, junk, junk, junk, junk, junk, junk, junk, junk, junk, junk, junk, junk, junk, junk, junk, junk, junk, junk, junk, junk, junk, junk, junk, junk, junk, junk, junk, junk, junk, junk, junk, junk, junk, junk, junk, junk, junk, junk, junk, junk, junk, junk, junk, junk, junk, junk, junk, junk, junk, junk, junk, junk, junk, junk, junk, junk, junk, junk, junk, junk, junk, junk, junk, junk, junk, junk, junk, junk, junk, junk, junk, junk, junk, junk, junk, junk, junk, junk, junk, junk, junk, junk, junk, junk, junk, junk, junk, junk, junk, junk, junk, junk, junk, junk, junk, junk, junk, junk, junk, junk]
theorem XP3_84 : ∃ P : Rec → Nat → Int → (Option Addr) → Nat → Nat → AMem → Res, P = fun (L : Rec) (x3 : Nat) (x7 : Int) (x8 : Option Addr) (x9 : Nat) (x10 : Nat) (M : AMem) => code L c3_84 (k3_84 L) (s3_84 x3 x7 x8 x9 x10 M) M := ⟨_, rfl⟩
noncomputable def P3_84 : Rec → Nat → Int → (Option Addr) → Nat → Nat → AMem → Res := Classical.choose XP3_84
noncomputable def k3_83 (L : Rec) : KT := postK zl4 (loopK L b3_20 (blockK 0 (seqK (code L (.clear zl9 c3_84) (retK [.tmp 6])) (retK [.tmp 6]))))
def s3_83 (x2 : Option Addr) (x2n : Nat) (x2c : Nat) (x3 : Nat) (x7 : Int) (x8 : Option Addr) (x9 : Nat) (x10 : Nat) (x11 : Int) (M : AMem) : List Value := [junk, junk, .slice x2 x2n x2c, .pointer (some ⟨x3, 0, none⟩), junk, junk, junk, .int .i64 x7, .pointer x8, .pointer (some ⟨x9, 0, none⟩), .pointer (some ⟨x10, 0, none⟩), .int .i64 x11, junk, junk, junk, junk, junk, junk, junk, junk, junk, junk, junk, junk, junk, junk, junk, junk, junk, junk, junk, junk, junk, junk, junk, junk, junk, junk, junk, junk, junk, junk, junk, junk, junk, junk, junk, junk, junk, junk, junk, junk, junk, junk, junk, junk, junk, junk, junk, junk, junk, junk, junk, junk, junk, junk, junk, junk, junk, junk, junk, junk, junk, junk, junk, junk, junk, junk, junk, junk, junk, junk, junk, junk, junk, junk, junk, junk, junk, junk, junk, junk, junk, junk, junk, junk, junk, junk, junk, junk, junk, junk, junk, junk, junk, junk, junk, junk, junk, junk, junk, junk, junk, junk, junk, junk, junk, junk, junk, junk, junk, junk, junk, junk, junk, junk, junk, junk, junk, junk, junk, junk, junk, junk, junk, junk, junk, junk, junk, junk, junk, junk, junk, junk, junk, junk, junk, junk, junk, junk, junk, junk, junk, junk, junk, junk, junk, junk, junk, junk, junk, junk, junk, junk, junk, junk, junk, junk, junk, junk, junk, junk, junk, junk, junk, junk, junk, junk, junk, junk, junk, junk, junk, junk, junk, junk, junk, junk, junk, junk, junk, junk, junk, junk, junk, junk, junk, junk, junk, junk, junk, junk, junk, junk, junk, junk, junk, junk, junk, junk, junk, junk, junk, junk, junk, junk, junk, junk, junk, junk, junk, junk, junk, junk, junk, junk, junk, junk, junk, junk, junk, junk, junk, junk, junk, junk, junk, junk, junk]
theorem XP3_83 : ∃ P : Rec → (Option Addr) → Nat → Nat → Nat → Int → (Option Addr) → Nat → Nat → Int → AMem → Res, P = fun (L : Rec) (x2 : Option Addr) (x2n : Nat) (x2c : Nat) (x3 : Nat) (x7 : Int) (x8 : Option Addr) (x9 : Nat) (x10 : Nat) (x11 : Int) (M : AMem) => code L c3_83 (k3_83 L) (s3_83 x2 x2n x2c x3 x7 x8 x9 x10 x11 M) M := ⟨_, rfl⟩
noncomputable def P3_83 : Rec → (Option Addr) → Nat → Nat → Nat → Int → (Option Addr) → Nat → Nat → Int → AMem → Res := Classical.choose XP3_83
noncomputable def k3_69 (L : Rec) : KT := seqK (code L (.draw [] 0 o3_74 []) (blockK 3 (seqK (code L (.clear zl1 c3_75) (postK zl1 (loopK L b3_57 (blockK 2 (seqK (code L (.clear zl3 c3_76) (blockK 1 (seqK (code L (.clear zl4 c3_83) (postK zl4 (loopK L b3_20 (blockK 0 (seqK (code L (.clear zl9 c3_84) (retK [.tmp 6])) (retK [.tmp 6])))))) (postK zl4 (loopK L b3_20 (blockK 0 (seqK (code L (.clear zl9 c3_84) (retK [.tmp 6])) (retK [.tmp 6])))))))) (blockK 1 (seqK (code L (.clear zl4 c3_83) (postK zl4 (loopK L b3_20 (blockK 0 (seqK (code L (.clear zl9 c3_84) (retK [.tmp 6])) (retK [.tmp 6])))))) (postK zl4 (loopK L b3_20 (blockK 0 (seqK (code L (.clear zl9 c3_84) (retK [.tmp 6])) (retK [.tmp 6])))))))))))) (postK zl1 (loopK L b3_57 (blockK 2 (seqK (code L (.clear zl3 c3_76) (blockK 1 (seqK (code L (.clear zl4 c3_83) (postK zl4 (loopK L b3_20 (blockK 0 (seqK (code L (.clear zl9 c3_84) (retK [.tmp 6])) (retK [.tmp 6])))))) (postK zl4 (loopK L b3_20 (blockK 0 (seqK (code L (.clear zl9 c3_84) (retK [.tmp 6])) (retK [.tmp 6])))))))) (blockK 1 (seqK (code L (.clear zl4 c3_83) (postK zl4 (loopK L b3_20 (blockK 0 (seqK (code L (.clear zl9 c3_84) (retK [.tmp 6])) (retK [.tmp 6])))))) (postK zl4 (loopK L b3_20 (blockK 0 (seqK (code L (.clear zl9 c3_84) (retK [.tmp 6])) (retK [.tmp 6])))))))))))))) (blockK 3 (seqK (code L (.clear zl1 c3_75) (postK zl1 (loopK L b3_57 (blockK 2 (seqK (code L (.clear zl3 c3_76) (blockK 1 (seqK (code L (.clear zl4 c3_83) (postK zl4 (loopK L b3_20 (blockK 0 (seqK (code L (.clear zl9 c3_84) (retK [.tmp 6])) (retK [.tmp 6])))))) (postK zl4 (loopK L b3_20 (blockK 0 (seqK (code L (.clear zl9 c3_84) (retK [.tmp 6])) (retK [.tmp 6])))))))) (blockK 1 (seqK (code L (.clear zl4 c3_83) (postK zl4 (loopK L b3_20 (blockK 0 (seqK (code L (.clear zl9 c3_84) (retK [.tmp 6])) (retK [.tmp 6])))))) (postK zl4 (loopK L b3_20 (blockK 0 (seqK (code L (.clear zl9 c3_84) (retK [.tmp 6])) (retK [.tmp 6])))))))))))) (postK zl1 (loopK L b3_57 (blockK 2 (seqK (code L (.clear zl3 c3_76) (blockK 1 (seqK (code L (.clear zl4 c3_83) (postK zl4 (loopK L b3_20 (blockK 0 (seqK (code L (.clear zl9 c3_84) (retK [.tmp 6])) (retK [.tmp 6])))))) (postK zl4 (loopK L b3_20 (blockK 0 (seqK (code L (.clear zl9 c3_84) (retK [.tmp 6])) (retK [.tmp 6])))))))) (blockK 1 (seqK (code L (.clear zl4 c3_83) (postK zl4 (loopK L b3_20 (blockK 0 (seqK (code L (.clear zl9 c3_84) (retK [.tmp 6])) (retK [.tmp 6])))))) (postK zl4 (loopK L b3_20 (blockK 0 (seqK (code L (.clear zl9 c3_84) (retK [.tmp 6])) (retK [.tmp 6])))))))))))))
def s3_69 (x2 : Option Addr) (x2n : Nat) (x2c : Nat) (x3 : Nat) (x7 : Int) (x8 : Option Addr) (x9 : Nat) (x10 : Nat) (x11 : Int) (x12 : Nat) (x13 : Option Addr) (x13n : Nat) (x13c : Nat) (x14 : Int) (x132 : Bool) (M : AMem) : List Value := [junk, junk, .slice x2 x2n x2c, .pointer (some ⟨x3, 0, none⟩), junk, junk, junk, .int .i64 x7, .pointer x8, .pointer (some ⟨x9, 0, none⟩), .pointer (some ⟨x10, 0, none⟩), .int .i64 x11, .pointer (some ⟨x12, 0, none⟩), .slice x13 x13n x13c, .int .i64 x14, junk, junk, junk, junk, junk, junk, junk, junk, junk, junk, junk, junk, junk, junk, junk, junk, junk, junk, junk, junk, junk, junk, junk, junk, junk, junk, junk, junk, junk, junk, junk, junk, junk, junk, junk, junk, junk, junk, junk, junk, junk, junk, junk, junk, junk, junk, junk, junk, junk, junk, junk, junk, junk, junk, junk, junk, junk, junk, junk, junk, junk, junk, junk, junk, junk, junk, junk, junk, junk, junk, junk, junk, junk, junk, junk, junk, junk, junk, junk, junk, junk, junk, junk, junk, junk, junk, junk, junk, junk, junk, junk, junk, junk, junk, junk, junk, junk, junk, junk, junk, junk, junk, junk, junk, junk, junk, junk, junk, junk, junk, junk, junk, junk, junk, junk, junk, junk, .bool x132, junk, junk, junk, junk, junk, junk, junk, junk, junk, junk, junk, junk, junk, junk, junk, junk, junk, junk, junk, junk, junk, junk, junk, junk, junk, junk, junk, junk, junk, junk, junk, junk, junk, junk, junk, junk, junk, junk, junk, junk, junk, junk, junk, junk, junk, junk, junk, junk, junk, junk, junk, junk, junk, junk, junk, junk, junk, junk, junk, junk, junk, junk, junk, junk, junk, junk, junk, junk, junk, junk, junk, junk, junk, junk, junk, junk, junk, junk, junk, junk, junk, junk, junk, junk, junk, junk, junk, junk, junk, junk, junk, junk, junk, junk, junk, junk, junk, junk, junk, junk, junk, junk, junk, junk, junk, junk]
theorem XP3_69 : ∃ P : Rec → (Option Addr) → Nat → Nat → Nat → Int → (Option Addr) → Nat → Nat → Int → Nat → (Option Addr) → Nat → Nat → Int → Bool → AMem → Res, P = fun (L : Rec) (x2 : Option Addr) (x2n : Nat) (x2c : Nat) (x3 : Nat) (x7 : Int) (x8 : Option Addr) (x9 : Nat) (x10 : Nat) (x11 : Int) (x12 : Nat) (x13 : Option Addr) (x13n : Nat) (x13c : Nat) (x14 : Int) (x132 : Bool) (M : AMem) => code L c3_69 (k3_69 L) (s3_69 x2 x2n x2c x3 x7 x8 x9 x10 x11 x12 x13 x13n x13c x14 x132 M) M := ⟨_, rfl⟩
noncomputable def P3_69 : Rec → (Option Addr) → Nat → Nat → Nat → Int → (Option Addr) → Nat → Nat → Int → Nat → (Option Addr) → Nat → Nat → Int → Bool → AMem → Res := Classical.choose XP3_69
noncomputable def k3_76 (L : Rec) : KT := blockK 1 (seqK (code L (.clear zl4 c3_83) (postK zl4 (loopK L b3_20 (blockK 0 (seqK (code L (.clear zl9 c3_84) (retK [.tmp 6])) (retK [.tmp 6])))))) (postK zl4 (loopK L b3_20 (blockK 0 (seqK (code L (.clear zl9 c3_84) (retK [.tmp 6])) (retK [.tmp 6]))))))
def s3_76 (x2 : Option Addr) (x2n : Nat) (x2c : Nat) (x3 : Nat) (x7 : Int) (x8 : Option Addr) (x9 : Nat) (x10 : Nat) (x11 : Int) (x12 : Nat) (M : AMem) : List Value := [junk, junk, .slice x2 x2n x2c, .pointer (some ⟨x3, 0, none⟩), junk, junk, junk, .int .i64 x7, .pointer x8, .pointer (some ⟨x9, 0, none⟩), .pointer (some ⟨x10, 0, none⟩), .int .i64 x11, .pointer (some ⟨x12, 0, none⟩), junk, junk, junk, junk, junk, junk, junk, junk, junk, junk, junk, junk, junk, junk, junk, junk, junk, junk, junk, junk, junk, junk, junk, junk, junk, junk, junk, junk, junk, junk, junk, junk, junk, junk, junk, junk, junk, junk, junk, junk, junk, junk, junk, junk, junk, junk, junk, junk, junk, junk, junk, junk, junk, junk, junk, junk, junk, junk, junk, junk, junk, junk, junk, junk, junk, junk, junk, junk, junk, junk, junk, junk, junk, junk, junk, junk, junk, junk, junk, junk, junk, junk, junk, junk, junk, junk, junk, junk, junk, junk, junk, junk, junk, junk, junk, junk, junk, junk, junk, junk, junk, junk, junk, junk, junk, junk, junk, junk, junk, junk, junk, junk, junk, junk, junk, junk, junk, junk, junk, junk, junk, junk, junk, junk, junk, junk, junk, junk, junk, junk, junk, junk, junk, junk, junk, junk, junk, junk, junk, junk, junk, junk, junk, junk, junk, junk, junk, junk, junk, junk, junk, junk, junk, junk, junk, junk, junk, junk, junk, junk, junk, junk, junk, junk, junk, junk, junk, junk, junk, junk, junk, junk, junk, junk, junk, junk, junk, junk, junk, junk, junk, junk, junk, junk, junk, junk, junk, junk, junk, junk, junk, junk, junk, junk, junk, junk, junk, junk, junk, junk, junk, junk, junk, junk, junk, junk, junk, junk, junk, junk, junk, junk, junk, junk, junk, junk, junk, junk, junk, junk, junk, junk, junk, junk, junk, junk]
theorem XP3_76 : ∃ P : Rec → (Option Addr) → Nat → Nat → Nat → Int → (Option Addr) → Nat → Nat → Int → Nat → AMem → Res, P = fun (L : Rec) (x2 : Option Addr) (x2n : Nat) (x2c : Nat) (x3 : Nat) (x7 : Int) (x8 : Option Addr) (x9 : Nat) (x10 : Nat) (x11 : Int) (x12 : Nat) (M : AMem) => code L c3_76 (k3_76 L) (s3_76 x2 x2n x2c x3 x7 x8 x9 x10 x11 x12 M) M := ⟨_, rfl⟩
noncomputable def P3_76 : Rec → (Option Addr) → Nat → Nat → Nat → Int → (Option Addr) → Nat → Nat → Int → Nat → AMem → Res := Classical.choose XP3_76
noncomputable def k3_100 (L : Rec) : KT := blockK 4 (seqK (code L (.clear zl8 c3_136) (retK [.tmp 6])) (retK [.tmp 6]))
def s3_100 (x3 : Nat) (x7 : Int) (x8 : Option Addr) (x9 : Nat) (x10 : Nat) (x15 : Option Addr) (x15n : Nat) (x15c : Nat) (x16 : Int) (x17 : Int) (M : AMem) : List Value := [junk, junk, junk, .pointer (some ⟨x3, 0, none⟩), junk, junk, junk, .int .i64 x7, .pointer x8, .pointer (some ⟨x9, 0, none⟩), .pointer (some ⟨x10, 0, none⟩), junk, junk, junk, junk, .slice x15 x15n x15c, .int .i64 x16, .int .i64 x17, junk, junk, junk, junk, junk, junk, junk, junk, junk, junk, junk, junk, junk, junk, junk, junk, junk, junk, junk, junk, junk, junk, junk, junk, junk, junk, junk, junk, junk, junk, junk, junk, junk, junk, junk, junk, junk, junk, junk, junk, junk, junk, junk, junk, junk, junk, junk, junk, junk, junk, junk, junk, junk, junk, junk, junk, junk, junk, junk, junk, junk, junk, junk, junk, junk, junk, junk, junk, junk, junk, junk, junk, junk, junk, junk, junk, junk, junk, junk, junk, junk, junk, junk, junk, junk, junk, junk, junk, junk, junk, junk, junk, junk, junk, junk, junk, junk, junk, junk, junk, junk, junk, junk, junk, junk, junk, junk, junk, junk, junk, junk, junk, junk, junk, junk, junk, junk, junk, junk, junk, junk, junk, junk, junk, junk, junk, junk, junk, junk, junk, junk, junk, junk, junk, junk, junk, junk, junk, junk, junk, junk, junk, junk, junk, junk, junk, junk, junk, junk, junk, junk, junk, junk, junk, junk, junk, junk, junk, junk, junk, junk, junk, junk, junk, junk, junk, junk, junk, junk, junk, junk, junk, junk, junk, junk, junk, junk, junk, junk, junk, junk, junk, junk, junk, junk, junk, junk, junk, junk, junk, junk, junk, junk, junk, junk, junk, junk, junk, junk, junk, junk, junk, junk, junk, junk, junk, junk, junk, junk, junk, junk, junk, junk, junk, junk, junk, junk, junk, junk, junk, junk]
theorem XP3_100 : ∃ P : Rec → Nat → Int → (Option Addr) → Nat → Nat → (Option Addr) → Nat → Nat → Int → Int → AMem → Res, P = fun (L : Rec) (x3 : Nat) (x7 : Int) (x8 : Option Addr) (x9 : Nat) (x10 : Nat) (x15 : Option Addr) (x15n : Nat) (x15c : Nat) (x16 : Int) (x17 : Int) (M : AMem) => L.loop b3_100 (k3_100 L) (s3_100 x3 x7 x8 x9 x10 x15 x15n x15c x16 x17 M) M := ⟨_, rfl⟩
noncomputable def P3_100 : Rec → Nat → Int → (Option Addr) → Nat → Nat → (Option Addr) → Nat → Nat → Int → Int → AMem → Res := Classical.choose XP3_100
noncomputable def k3_75 (L : Rec) : KT := postK zl1 (loopK L b3_57 (blockK 2 (seqK (code L (.clear zl3 c3_76) (blockK 1 (seqK (code L (.clear zl4 c3_83) (postK zl4 (loopK L b3_20 (blockK 0 (seqK (code L (.clear zl9 c3_84) (retK [.tmp 6])) (retK [.tmp 6])))))) (postK zl4 (loopK L b3_20 (blockK 0 (seqK (code L (.clear zl9 c3_84) (retK [.tmp 6])) (retK [.tmp 6])))))))) (blockK 1 (seqK (code L (.clear zl4 c3_83) (postK zl4 (loopK L b3_20 (blockK 0 (seqK (code L (.clear zl9 c3_84) (retK [.tmp 6])) (retK [.tmp 6])))))) (postK zl4 (loopK L b3_20 (blockK 0 (seqK (code L (.clear zl9 c3_84) (retK [.tmp 6])) (retK [.tmp 6]))))))))))
def s3_75 (x2 : Option Addr) (x2n : Nat) (x2c : Nat) (x3 : Nat) (x7 : Int) (x8 : Option Addr) (x9 : Nat) (x10 : Nat) (x11 : Int) (x12 : Nat) (x13 : Option Addr) (x13n : Nat) (x13c : Nat) (x14 : Int) (M : AMem) : List Value := [junk, junk, .slice x2 x2n x2c, .pointer (some ⟨x3, 0, none⟩), junk, junk, junk, .int .i64 x7, .pointer x8, .pointer (some ⟨x9, 0, none⟩), .pointer (some ⟨x10, 0, none⟩), .int .i64 x11, .pointer (some ⟨x12, 0, none⟩), .slice x13 x13n x13c, .int .i64 x14, junk, junk, junk, junk, junk, junk, junk, junk, junk, junk, junk, junk, junk, junk, junk, junk, junk, junk, junk, junk, junk, junk, junk, junk, junk, junk, junk, junk, junk, junk, junk, junk, junk, junk, junk, junk, junk, junk, junk, junk, junk, junk, junk, junk, junk, junk, junk, junk, junk, junk, junk, junk, junk, junk, junk, junk, junk, junk, junk, junk, junk, junk, junk, junk, junk, junk, junk, junk, junk, junk, junk, junk, junk, junk, junk, junk, junk, junk, junk, junk, junk, junk, junk, junk, junk, junk, junk, junk, junk, junk, junk, junk, junk, junk, junk, junk, junk, junk, junk, junk, junk, junk, junk, junk, junk, junk, junk, junk, junk, junk, junk, junk, junk, junk, junk, junk, junk, junk, junk, junk, junk, junk, junk, junk, junk, junk, junk, junk, junk, junk, junk, junk, junk, junk, junk, junk, junk, junk, junk, junk, junk, junk, junk, junk, junk, junk, junk, junk, junk, junk, junk, junk, junk, junk, junk, junk, junk, junk, junk, junk, junk, junk, junk, junk, junk, junk, junk, junk, junk, junk, junk, junk, junk, junk, junk, junk, junk, junk, junk, junk, junk, junk, junk, junk, junk, junk, junk, junk, junk, junk, junk, junk, junk, junk, junk, junk, junk, junk, junk, junk, junk, junk, junk, junk, junk, junk, junk, junk, junk, junk, junk, junk, junk, junk, junk, junk, junk, junk, junk, junk, junk, junk, junk, junk]
theorem XP3_75 : ∃ P : Rec → (Option Addr) → Nat → Nat → Nat → Int → (Option Addr) → Nat → Nat → Int → Nat → (Option Addr) → Nat → Nat → Int → AMem → Res, P = fun (L : Rec) (x2 : Option Addr) (x2n : Nat) (x2c : Nat) (x3 : Nat) (x7 : Int) (x8 : Option Addr) (x9 : Nat) (x10 : Nat) (x11 : Int) (x12 : Nat) (x13 : Option Addr) (x13n : Nat) (x13c : Nat) (x14 : Int) (M : AMem) => code L c3_75 (k3_75 L) (s3_75 x2 x2n x2c x3 x7 x8 x9 x10 x11 x12 x13 x13n x13c x14 M) M := ⟨_, rfl⟩
noncomputable def P3_75 : Rec → (Option Addr) → Nat → Nat → Nat → Int → (Option Addr) → Nat → Nat → Int → Nat → (Option Addr) → Nat → Nat → Int → AMem → Res := Classical.choose XP3_75
noncomputable def k3_113 (L : Rec) : KT := blockK 5 (seqK (code L (.clear zl7 c3_135) (postK zl7 (loopK L b3_100 (blockK 4 (seqK (code L (.clear zl8 c3_136) (retK [.tmp 6])) (retK [.tmp 6])))))) (postK zl7 (loopK L b3_100 (blockK 4 (seqK (code L (.clear zl8 c3_136) (retK [.tmp 6])) (retK [.tmp 6]))))))
def s3_113 (x3 : Nat) (x7 : Int) (x8 : Option Addr) (x9 : Nat) (x10 : Nat) (x15 : Option Addr) (x15n : Nat) (x15c : Nat) (x16 : Int) (x17 : Int) (x18 : Option Addr) (x18n : Nat) (x18c : Nat) (M : AMem) : List Value := [junk, junk, junk, .pointer (some ⟨x3, 0, none⟩), junk, junk, junk, .int .i64 x7, .pointer x8, .pointer (some ⟨x9, 0, none⟩), .pointer (some ⟨x10, 0, none⟩), junk, junk, junk, junk, .slice x15 x15n x15c, .int .i64 x16, .int .i64 x17, .slice x18 x18n x18c, junk, junk, junk, junk, junk, junk, junk, junk, junk, junk, junk, junk, junk, junk, junk, junk, junk, junk, junk, junk, junk, junk, junk, junk, junk, junk, junk, junk, junk, junk, junk, junk, junk, junk, junk, junk, junk, junk, junk, junk, junk, junk, junk, junk, junk, junk, junk, junk, junk, junk, junk, junk, junk, junk, junk, junk, junk, junk, junk, junk, junk, junk, junk, junk, junk, junk, junk, junk, junk, junk, junk, junk, junk, junk, junk, junk, junk, junk, junk, junk, junk, junk, junk, junk, junk, junk, junk, junk, junk, junk, junk, junk, junk, junk, junk, junk, junk, junk, junk, junk, junk, junk, junk, junk, junk, junk, junk, junk, junk, junk, junk, junk, junk, junk, junk, junk, junk, junk, junk, junk, junk, junk, junk, junk, junk, junk, junk, junk, junk, junk, junk, junk, junk, junk, junk, junk, junk, junk, junk, junk, junk, junk, junk, junk, junk, junk, junk, junk, junk, junk, junk, junk, junk, junk, junk, junk, junk, junk, junk, junk, junk, junk, junk, junk, junk, junk, junk, junk, junk, junk, junk, junk, junk, junk, junk, junk, junk, junk, junk, junk, junk, junk, junk, junk, junk, junk, junk, junk, junk, junk, junk, junk, junk, junk, junk, junk, junk, junk, junk, junk, junk, junk, junk, junk, junk, junk, junk, junk, junk, junk, junk, junk, junk, junk, junk, junk, junk, junk, junk, junk]
theorem XP3_113 : ∃ P : Rec → Nat → Int → (Option Addr) → Nat → Nat → (Option Addr) → Nat → Nat → Int → Int → (Option Addr) → Nat → Nat → AMem → Res, P = fun (L : Rec) (x3 : Nat) (x7 : Int) (x8 : Option Addr) (x9 : Nat) (x10 : Nat) (x15 : Option Addr) (x15n : Nat) (x15c : Nat) (x16 : Int) (x17 : Int) (x18 : Option Addr) (x18n : Nat) (x18c : Nat) (M : AMem) => code L c3_113 (k3_113 L) (s3_113 x3 x7 x8 x9 x10 x15 x15n x15c x16 x17 x18 x18n x18c M) M := ⟨_, rfl⟩
noncomputable def P3_113 : Rec → Nat → Int → (Option Addr) → Nat → Nat → (Option Addr) → Nat → Nat → Int → Int → (Option Addr) → Nat → Nat → AMem → Res := Classical.choose XP3_113
noncomputable def k3_136 (L : Rec) : KT := retK [.tmp 6]
def s3_136 (x7 : Int) (x8 : Option Addr) (x9 : Nat) (x10 : Nat) (x16 : Int) (M : AMem) : List Value := [junk, junk, junk, junk, junk, junk, junk, .int .i64 x7, .pointer x8, .pointer (some ⟨x9, 0, none⟩), .pointer (some ⟨x10, 0, none⟩), junk, junk, junk, junk, junk, .int .i64 x16, junk, junk, junk, junk, junk, junk, junk, junk, junk, junk, junk, junk, junk, junk, junk, junk, junk, junk, junk, junk, junk, junk, junk, junk, junk, junk, junk, junk, junk, junk, junk, junk, junk, junk, junk, junk, junk, junk, junk, junk, junk, junk, junk, junk, junk, junk, junk, junk, junk, junk, junk, junk, junk, junk, junk, junk, junk, junk, junk, junk, junk, junk, junk, junk, junk, junk, junk, junk, junk, junk, junk, junk, junk, junk, junk, junk, junk, junk, junk, junk, junk, junk, junk, junk, junk, junk, junk, junk, junk, junk, junk, junk, junk, junk, junk, junk, junk, junk, junk, junk, junk, junk, junk, junk, junk, junk, junk, junk, junk, junk, junk, junk, junk, junk, junk, junk, junk, junk, junk, junk, junk, junk, junk, junk, junk, junk, junk, junk, junk, junk, junk, junk, junk, junk, junk, junk, junk, junk, junk, junk, junk, junk, junk, junk, junk, junk, junk, junk, junk, junk, junk, junk, junk, junk, junk, junk, junk, junk, junk, junk, junk, junk, junk, junk, junk, junk, junk, junk, junk, junk, junk, junk, junk, junk, junk, junk, junk, junk, junk, junk, junk, junk, junk, junk, junk, junk, junk, junk, junk, junk, junk, junk, junk, junk, junk, junk, junk, junk, junk, junk, junk, junk, junk, junk, junk, junk, junk, junk, junk, junk, junk, junk, junk, junk, junk, junk, junk, junk, junk, junk, junk, junk]
theorem XP3_136 : ∃ P : Rec → Int → (Option Addr) → Nat → Nat → Int → AMem → Res, P = fun (L : Rec) (x7 : Int) (x8 : Option Addr) (x9 : Nat) (x10 : Nat) (x16 : Int) (M : AMem) => code L c3_136 (k3_136 L) (s3_136 x7 x8 x9 x10 x16 M) M := ⟨_, rfl⟩
noncomputable def P3_136 : Rec → Int → (Option Addr) → Nat → Nat → Int → AMem → Res := Classical.choose XP3_136
noncomputable def k3_116 (L : Rec) : KT := blockK 6 (blockK 5 (seqK (code L (.clear zl7 c3_135) (postK zl7 (loopK L b3_100 (blockK 4 (seqK (code L (.clear zl8 c3_136) (retK [.tmp 6])) (retK [.tmp 6])))))) (postK zl7 (loopK L b3_100 (blockK 4 (seqK (code L (.clear zl8 c3_136) (retK [.tmp 6])) (retK [.tmp 6])))))))
def s3_116 (x3 : Nat) (x7 : Int) (x8 : Option Addr) (x9 : Nat) (x10 : Nat) (x15 : Option Addr) (x15n : Nat) (x15c : Nat) (x16 : Int) (x17 : Int) (x18 : Option Addr) (x18n : Nat) (x18c : Nat) (x19 : Int) (M : AMem) : List Value := [junk, junk, junk, .pointer (some ⟨x3, 0, none⟩), junk, junk, junk, .int .i64 x7, .pointer x8, .pointer (some ⟨x9, 0, none⟩), .pointer (some ⟨x10, 0, none⟩), junk, junk, junk, junk, .slice x15 x15n x15c, .int .i64 x16, .int .i64 x17, .slice x18 x18n x18c, .int .i64 x19, junk, junk, junk, junk, junk, junk, junk, junk, junk, junk, junk, junk, junk, junk, junk, junk, junk, junk, junk, junk, junk, junk, junk, junk, junk, junk, junk, junk, junk, junk, junk, junk, junk, junk, junk, junk, junk, junk, junk, junk, junk, junk, junk, junk, junk, junk, junk, junk, junk, junk, junk, junk, junk, junk, junk, junk, junk, junk, junk, junk, junk, junk, junk, junk, junk, junk, junk, junk, junk, junk, junk, junk, junk, junk, junk, junk, junk, junk, junk, junk, junk, junk, junk, junk, junk, junk, junk, junk, junk, junk, junk, junk, junk, junk, junk, junk, junk, junk, junk, junk, junk, junk, junk, junk, junk, junk, junk, junk, junk, junk, junk, junk, junk, junk, junk, junk, junk, junk, junk, junk, junk, junk, junk, junk, junk, junk, junk, junk, junk, junk, junk, junk, junk, junk, junk, junk, junk, junk, junk, junk, junk, junk, junk, junk, junk, junk, junk, junk, junk, junk, junk, junk, junk, junk, junk, junk, junk, junk, junk, junk, junk, junk, junk, junk, junk, junk, junk, junk, junk, junk, junk, junk, junk, junk, junk, junk, junk, junk, junk, junk, junk, junk, junk, junk, junk, junk, junk, junk, junk, junk, junk, junk, junk, junk, junk, junk, junk, junk, junk, junk, junk, junk, junk, junk, junk, junk, junk, junk, junk, junk, junk, junk, junk, junk, junk, junk, junk, junk, junk]
theorem XP3_116 : ∃ P : Rec → Nat → Int → (Option Addr) → Nat → Nat → (Option Addr) → Nat → Nat → Int → Int → (Option Addr) → Nat → Nat → Int → AMem → Res, P = fun (L : Rec) (x3 : Nat) (x7 : Int) (x8 : Option Addr) (x9 : Nat) (x10 : Nat) (x15 : Option Addr) (x15n : Nat) (x15c : Nat) (x16 : Int) (x17 : Int) (x18 : Option Addr) (x18n : Nat) (x18c : Nat) (x19 : Int) (M : AMem) => L.loop b3_116 (k3_116 L) (s3_116 x3 x7 x8 x9 x10 x15 x15n x15c x16 x17 x18 x18n x18c x19 M) M := ⟨_, rfl⟩
noncomputable def P3_116 : Rec → Nat → Int → (Option Addr) → Nat → Nat → (Option Addr) → Nat → Nat → Int → Int → (Option Addr) → Nat → Nat → Int → AMem → Res := Classical.choose XP3_116
noncomputable def k3_134 (L : Rec) : KT := postK zl5 (loopK L b3_116 (blockK 6 (blockK 5 (seqK (code L (.clear zl7 c3_135) (postK zl7 (loopK L b3_100 (blockK 4 (seqK (code L (.clear zl8 c3_136) (retK [.tmp 6])) (retK [.tmp 6])))))) (postK zl7 (loopK L b3_100 (blockK 4 (seqK (code L (.clear zl8 c3_136) (retK [.tmp 6])) (retK [.tmp 6])))))))))
def s3_134 (x3 : Nat) (x7 : Int) (x8 : Option Addr) (x9 : Nat) (x10 : Nat) (x15 : Option Addr) (x15n : Nat) (x15c : Nat) (x16 : Int) (x17 : Int) (x18 : Option Addr) (x18n : Nat) (x18c : Nat) (x19 : Int) (M : AMem) : List Value := [junk, junk, junk, .pointer (some ⟨x3, 0, none⟩), junk, junk, junk, .int .i64 x7, .pointer x8, .pointer (some ⟨x9, 0, none⟩), .pointer (some ⟨x10, 0, none⟩), junk, junk, junk, junk, .slice x15 x15n x15c, .int .i64 x16, .int .i64 x17, .slice x18 x18n x18c, .int .i64 x19, junk, junk, junk, junk, junk, junk, junk, junk, junk, junk, junk, junk, junk, junk, junk, junk, junk, junk, junk, junk, junk, junk, junk, junk, junk, junk, junk, junk, junk, junk, junk, junk, junk, junk, junk, junk, junk, junk, junk, junk, junk, junk, junk, junk, junk, junk, junk, junk, junk, junk, junk, junk, junk, junk, junk, junk, junk, junk, junk, junk, junk, junk, junk, junk, junk, junk, junk, junk, junk, junk, junk, junk, junk, junk, junk, junk, junk, junk, junk, junk, junk, junk, junk, junk, junk, junk, junk, junk, junk, junk, junk, junk, junk, junk, junk, junk, junk, junk, junk, junk, junk, junk, junk, junk, junk, junk, junk, junk, junk, junk, junk, junk, junk, junk, junk, junk, junk, junk, junk, junk, junk, junk, junk, junk, junk, junk, junk, junk, junk, junk, junk, junk, junk, junk, junk, junk, junk, junk, junk, junk, junk, junk, junk, junk, junk, junk, junk, junk, junk, junk, junk, junk, junk, junk, junk, junk, junk, junk, junk, junk, junk, junk, junk, junk, junk, junk, junk, junk, junk, junk, junk, junk, junk, junk, junk, junk, junk, junk, junk, junk, junk, junk, junk, junk, junk, junk, junk, junk, junk, junk, junk, junk, junk, junk, junk, junk, junk, junk, junk, junk, junk, junk, junk, junk, junk, junk, junk, junk, junk, junk, junk, junk, junk, junk, junk, junk, junk, junk, junk]
theorem XP3_134 : ∃ P : Rec → Nat → Int → (Option Addr) → Nat → Nat → (Option Addr) → Nat → Nat → Int → Int → (Option Addr) → Nat → Nat → Int → AMem → Res, P = fun (L : Rec) (x3 : Nat) (x7 : Int) (x8 : Option Addr) (x9 : Nat) (x10 : Nat) (x15 : Option Addr) (x15n : Nat) (x15c : Nat) (x16 : Int) (x17 : Int) (x18 : Option Addr) (x18n : Nat) (x18c : Nat) (x19 : Int) (M : AMem) => code L c3_134 (k3_134 L) (s3_134 x3 x7 x8 x9 x10 x15 x15n x15c x16 x17 x18 x18n x18c x19 M) M := ⟨_, rfl⟩
noncomputable def P3_134 : Rec → Nat → Int → (Option Addr) → Nat → Nat → (Option Addr) → Nat → Nat → Int → Int → (Option Addr) → Nat → Nat → Int → AMem → Res := Classical.choose XP3_134
noncomputable def k3_135 (L : Rec) : KT := postK zl7 (loopK L b3_100 (blockK 4 (seqK (code L (.clear zl8 c3_136) (retK [.tmp 6])) (retK [.tmp 6]))))
def s3_135 (x3 : Nat) (x7 : Int) (x8 : Option Addr) (x9 : Nat) (x10 : Nat) (x15 : Option Addr) (x15n : Nat) (x15c : Nat) (x16 : Int) (x17 : Int) (M : AMem) : List Value := [junk, junk, junk, .pointer (some ⟨x3, 0, none⟩), junk, junk, junk, .int .i64 x7, .pointer x8, .pointer (some ⟨x9, 0, none⟩), .pointer (some ⟨x10, 0, none⟩), junk, junk, junk, junk, .slice x15 x15n x15c, .int .i64 x16, .int .i64 x17, junk, junk, junk, junk, junk, junk, junk, junk, junk, junk, junk, junk, junk, junk, junk, junk, junk, junk, junk, junk, junk, junk, junk, junk, junk, junk, junk, junk, junk, junk, junk, junk, junk, junk, junk, junk, junk, junk, junk, junk, junk, junk, junk, junk, junk, junk, junk, junk, junk, junk, junk, junk, junk, junk, junk, junk, junk, junk, junk, junk, junk, junk, junk, junk, junk, junk, junk, junk, junk, junk, junk, junk, junk, junk, junk, junk, junk, junk, junk, junk, junk, junk, junk, junk, junk, junk, junk, junk, junk, junk, junk, junk, junk, junk, junk, junk, junk, junk, junk, junk, junk, junk, junk, junk, junk, junk, junk, junk, junk, junk, junk, junk, junk, junk, junk, junk, junk, junk, junk, junk, junk, junk, junk, junk, junk, junk, junk, junk, junk, junk, junk, junk, junk, junk, junk, junk, junk, junk, junk, junk, junk, junk, junk, junk, junk, junk, junk, junk, junk, junk, junk, junk, junk, junk, junk, junk, junk, junk, junk, junk, junk, junk, junk, junk, junk, junk, junk, junk, junk, junk, junk, junk, junk, junk, junk, junk, junk, junk, junk, junk, junk, junk, junk, junk, junk, junk, junk, junk, junk, junk, junk, junk, junk, junk, junk, junk, junk, junk, junk, junk, junk, junk, junk, junk, junk, junk, junk, junk, junk, junk, junk, junk, junk, junk, junk, junk, junk, junk, junk, junk, junk]
theorem XP3_135 : ∃ P : Rec → Nat → Int → (Option Addr) → Nat → Nat → (Option Addr) → Nat → Nat → Int → Int → AMem → Res, P = fun (L : Rec) (x3 : Nat) (x7 : Int) (x8 : Option Addr) (x9 : Nat) (x10 : Nat) (x15 : Option Addr) (x15n : Nat) (x15c : Nat) (x16 : Int) (x17 : Int) (M : AMem) => code L c3_135 (k3_135 L) (s3_135 x3 x7 x8 x9 x10 x15 x15n x15c x16 x17 M) M := ⟨_, rfl⟩
noncomputable def P3_135 : Rec → Nat → Int → (Option Addr) → Nat → Nat → (Option Addr) → Nat → Nat → Int → Int → AMem → Res := Classical.choose XP3_135
theorem QP3_12_eq (L : Rec) (b3_20 c3_84 : ACode) (P3_12 : Rec → (Option Addr) → Nat → Nat → Nat → Int → AMem → Res) (hP3_12 : Eq P3_12 fun L x2 x2n x2c x3 x7 M => code L (.seq (.ops o3_13) (.seq (.ops o3_15) (.seq (.seq (.ops o3_18) (.block 0 (.clear zl4 (.loop b3_20)))) (.clear zl9 c3_84)))) (retK [.tmp 6]) (s3_12 x2 x2n x2c x3 x7 M) M) (P3_20 : Rec → (Option Addr) → Nat → Nat → Nat → Int → (Option Addr) → Nat → Nat → Int → AMem → Res) (hP3_20 : Eq P3_20 fun L x2 x2n x2c x3 x7 x8 x9 x10 x11 M => L.loop b3_20 (blockK 0 (seqK (code L (.clear zl9 c3_84) (retK [.tmp 6])) (retK [.tmp 6]))) (s3_20 x2 x2n x2c x3 x7 x8 x9 x10 x11 M) M) (x2 : Option Addr) (x2n : Nat) (x2c : Nat) (x3 : Nat) (x7 : Int) (M : AMem) : P3_12 L x2 x2n x2c x3 x7 M =
  (Option.bind (intOf? .i64 (AMem.ld M x3 0)) fun x_1 =>
    (Option.bind (intOf? .i64 (AMem.ld M x3 1)) fun x_2 =>
    (Option.bind (L.call 6 [.agg #[.int .i64 x_1, .int .i64 x_2], .int .i64 x7] M) fun r_3 =>
    (Option.bind (ptrOf? (some r_3.1)) fun p_4 =>
    P3_20 L x2 x2n x2c x3 x7 p_4 (List.length r_3.2) (List.length (r_3.2 ++ [AObj.cells [.int .u64 0, .int .u64 0, .int .u64 0, .int .u64 0, .int .u64 0, .int .u64 0, .int .u64 0, .int .u64 0, .int .u64 0, .int .u64 0, .int .u64 0, .int .u64 0, .int .u64 0, .int .u64 0, .int .u64 0, .int .u64 0, .int .u64 0, .int .u64 0, .int .u64 0, .int .u64 0, .int .u64 0, .int .u64 0, .int .u64 0, .int .u64 0, .int .u64 0, .int .u64 0, .int .u64 0, .int .u64 0, .int .u64 0, .int .u64 0, .int .u64 0, .int .u64 0, .int .u64 0, .int .u64 0, .int .u64 0, .int .u64 0, .int .u64 0, .int .u64 0, .int .u64 0, .int .u64 0, .int .u64 0, .int .u64 0, .int .u64 0, .int .u64 0, .int .u64 0, .int .u64 0, .int .u64 0, .int .u64 0, .int .u64 0, .int .u64 0, .int .u64 0, .int .u64 0, .int .u64 0, .int .u64 0, .int .u64 0, .int .u64 0, .int .u64 0, .int .u64 0, .int .u64 0, .int .u64 0, .int .u64 0, .int .u64 0, .int .u64 0, .int .u64 0] ⟨false, 0⟩])) 0 ((r_3.2 ++ [AObj.cells [.int .u64 0, .int .u64 0, .int .u64 0, .int .u64 0, .int .u64 0, .int .u64 0, .int .u64 0, .int .u64 0, .int .u64 0, .int .u64 0, .int .u64 0, .int .u64 0, .int .u64 0, .int .u64 0, .int .u64 0, .int .u64 0, .int .u64 0, .int .u64 0, .int .u64 0, .int .u64 0, .int .u64 0, .int .u64 0, .int .u64 0, .int .u64 0, .int .u64 0, .int .u64 0, .int .u64 0, .int .u64 0, .int .u64 0, .int .u64 0, .int .u64 0, .int .u64 0, .int .u64 0, .int .u64 0, .int .u64 0, .int .u64 0, .int .u64 0, .int .u64 0, .int .u64 0, .int .u64 0, .int .u64 0, .int .u64 0, .int .u64 0, .int .u64 0, .int .u64 0, .int .u64 0, .int .u64 0, .int .u64 0, .int .u64 0, .int .u64 0, .int .u64 0, .int .u64 0, .int .u64 0, .int .u64 0, .int .u64 0, .int .u64 0, .int .u64 0, .int .u64 0, .int .u64 0, .int .u64 0, .int .u64 0, .int .u64 0, .int .u64 0, .int .u64 0] ⟨false, 0⟩]) ++ [AObj.cells [.int .u64 0, .int .u64 0, .int .u64 0, .int .u64 0, .int .u64 0, .int .u64 0, .int .u64 0, .int .u64 0, .int .u64 0, .int .u64 0, .int .u64 0, .int .u64 0, .int .u64 0, .int .u64 0, .int .u64 0, .int .u64 0, .int .u64 0, .int .u64 0, .int .u64 0, .int .u64 0, .int .u64 0, .int .u64 0, .int .u64 0, .int .u64 0, .int .u64 0, .int .u64 0, .int .u64 0, .int .u64 0, .int .u64 0, .int .u64 0, .int .u64 0, .int .u64 0, .int .u64 0, .int .u64 0, .int .u64 0, .int .u64 0, .int .u64 0, .int .u64 0, .int .u64 0, .int .u64 0, .int .u64 0, .int .u64 0, .int .u64 0, .int .u64 0, .int .u64 0, .int .u64 0, .int .u64 0, .int .u64 0, .int .u64 0, .int .u64 0, .int .u64 0, .int .u64 0, .int .u64 0, .int .u64 0, .int .u64 0, .int .u64 0, .int .u64 0, .int .u64 0, .int .u64 0, .int .u64 0, .int .u64 0, .int .u64 0, .int .u64 0, .int .u64 0] ⟨false, 0⟩]))))) := by
  subst hP3_12; subst hP3_20; kernel_rfl
theorem P3_12_eq (L : Rec) (x2 : Option Addr) (x2n : Nat) (x2c : Nat) (x3 : Nat) (x7 : Int) (M : AMem) : P3_12 L x2 x2n x2c x3 x7 M =
  (Option.bind (intOf? .i64 (AMem.ld M x3 0)) fun x_1 =>
    (Option.bind (intOf? .i64 (AMem.ld M x3 1)) fun x_2 =>
    (Option.bind (L.call 6 [.agg #[.int .i64 x_1, .int .i64 x_2], .int .i64 x7] M) fun r_3 =>
    (Option.bind (ptrOf? (some r_3.1)) fun p_4 =>
    P3_20 L x2 x2n x2c x3 x7 p_4 (List.length r_3.2) (List.length (r_3.2 ++ [AObj.cells [.int .u64 0, .int .u64 0, .int .u64 0, .int .u64 0, .int .u64 0, .int .u64 0, .int .u64 0, .int .u64 0, .int .u64 0, .int .u64 0, .int .u64 0, .int .u64 0, .int .u64 0, .int .u64 0, .int .u64 0, .int .u64 0, .int .u64 0, .int .u64 0, .int .u64 0, .int .u64 0, .int .u64 0, .int .u64 0, .int .u64 0, .int .u64 0, .int .u64 0, .int .u64 0, .int .u64 0, .int .u64 0, .int .u64 0, .int .u64 0, .int .u64 0, .int .u64 0, .int .u64 0, .int .u64 0, .int .u64 0, .int .u64 0, .int .u64 0, .int .u64 0, .int .u64 0, .int .u64 0, .int .u64 0, .int .u64 0, .int .u64 0, .int .u64 0, .int .u64 0, .int .u64 0, .int .u64 0, .int .u64 0, .int .u64 0, .int .u64 0, .int .u64 0, .int .u64 0, .int .u64 0, .int .u64 0, .int .u64 0, .int .u64 0, .int .u64 0, .int .u64 0, .int .u64 0, .int .u64 0, .int .u64 0, .int .u64 0, .int .u64 0, .int .u64 0] ⟨false, 0⟩])) 0 ((r_3.2 ++ [AObj.cells [.int .u64 0, .int .u64 0, .int .u64 0, .int .u64 0, .int .u64 0, .int .u64 0, .int .u64 0, .int .u64 0, .int .u64 0, .int .u64 0, .int .u64 0, .int .u64 0, .int .u64 0, .int .u64 0, .int .u64 0, .int .u64 0, .int .u64 0, .int .u64 0, .int .u64 0, .int .u64 0, .int .u64 0, .int .u64 0, .int .u64 0, .int .u64 0, .int .u64 0, .int .u64 0, .int .u64 0, .int .u64 0, .int .u64 0, .int .u64 0, .int .u64 0, .int .u64 0, .int .u64 0, .int .u64 0, .int .u64 0, .int .u64 0, .int .u64 0, .int .u64 0, .int .u64 0, .int .u64 0, .int .u64 0, .int .u64 0, .int .u64 0, .int .u64 0, .int .u64 0, .int .u64 0, .int .u64 0, .int .u64 0, .int .u64 0, .int .u64 0, .int .u64 0, .int .u64 0, .int .u64 0, .int .u64 0, .int .u64 0, .int .u64 0, .int .u64 0, .int .u64 0, .int .u64 0, .int .u64 0, .int .u64 0, .int .u64 0, .int .u64 0, .int .u64 0] ⟨false, 0⟩]) ++ [AObj.cells [.int .u64 0, .int .u64 0, .int .u64 0, .int .u64 0, .int .u64 0, .int .u64 0, .int .u64 0, .int .u64 0, .int .u64 0, .int .u64 0, .int .u64 0, .int .u64 0, .int .u64 0, .int .u64 0, .int .u64 0, .int .u64 0, .int .u64 0, .int .u64 0, .int .u64 0, .int .u64 0, .int .u64 0, .int .u64 0, .int .u64 0, .int .u64 0, .int .u64 0, .int .u64 0, .int .u64 0, .int .u64 0, .int .u64 0, .int .u64 0, .int .u64 0, .int .u64 0, .int .u64 0, .int .u64 0, .int .u64 0, .int .u64 0, .int .u64 0, .int .u64 0, .int .u64 0, .int .u64 0, .int .u64 0, .int .u64 0, .int .u64 0, .int .u64 0, .int .u64 0, .int .u64 0, .int .u64 0, .int .u64 0, .int .u64 0, .int .u64 0, .int .u64 0, .int .u64 0, .int .u64 0, .int .u64 0, .int .u64 0, .int .u64 0, .int .u64 0, .int .u64 0, .int .u64 0, .int .u64 0, .int .u64 0, .int .u64 0, .int .u64 0, .int .u64 0] ⟨false, 0⟩]))))) := QP3_12_eq L b3_20 c3_84 P3_12 (Classical.choose_spec XP3_12) P3_20 (Classical.choose_spec XP3_20) x2 x2n x2c x3 x7 M
theorem QP3_20_eq (L : Rec) (b3_20 b3_57 c3_38 c3_76 c3_83 c3_84 : ACode) (hb : ∀ K t A, L.loop b3_20 K t A = code L (.post (.seq (.seq (.ops o3_23) (.cond (.tmp 53) (.skip) (.exit 0))) (.seq (.block 1 (.seq (.ops o3_30) (.seq (.seq (.ops o3_33) (.cond (.tmp 62) (.seq (.seq (.ops o3_37) (.clear zl2 c3_38)) (.exit 1)) (.skip))) (.seq (.ops o3_52) (.seq (.seq (.ops o3_55) (.block 2 (.clear zl1 (.loop b3_57)))) (.clear zl3 c3_76)))))) (.clear zl4 c3_83))) zl4) (loopK L b3_20 K) t A) (P3_20 : Rec → (Option Addr) → Nat → Nat → Nat → Int → (Option Addr) → Nat → Nat → Int → AMem → Res) (hP3_20 : Eq P3_20 fun L x2 x2n x2c x3 x7 x8 x9 x10 x11 M => L.loop b3_20 (blockK 0 (seqK (code L (.clear zl9 c3_84) (retK [.tmp 6])) (retK [.tmp 6]))) (s3_20 x2 x2n x2c x3 x7 x8 x9 x10 x11 M) M) (P3_38 : Rec → (Option Addr) → Nat → Nat → Nat → Int → (Option Addr) → Nat → Nat → Int → Nat → Bool → AMem → Res) (hP3_38 : Eq P3_38 fun L x2 x2n x2c x3 x7 x8 x9 x10 x11 x12 x66 M => code L c3_38 (seqK (code L (.exit 1) (seqK (code L (.seq (.ops o3_52) (.seq (.seq (.ops o3_55) (.block 2 (.clear zl1 (.loop b3_57)))) (.clear zl3 c3_76))) (blockK 1 (seqK (code L (.clear zl4 c3_83) (postK zl4 (loopK L b3_20 (blockK 0 (seqK (code L (.clear zl9 c3_84) (retK [.tmp 6])) (retK [.tmp 6])))))) (postK zl4 (loopK L b3_20 (blockK 0 (seqK (code L (.clear zl9 c3_84) (retK [.tmp 6])) (retK [.tmp 6])))))))) (blockK 1 (seqK (code L (.clear zl4 c3_83) (postK zl4 (loopK L b3_20 (blockK 0 (seqK (code L (.clear zl9 c3_84) (retK [.tmp 6])) (retK [.tmp 6])))))) (postK zl4 (loopK L b3_20 (blockK 0 (seqK (code L (.clear zl9 c3_84) (retK [.tmp 6])) (retK [.tmp 6]))))))))) (seqK (code L (.seq (.ops o3_52) (.seq (.seq (.ops o3_55) (.block 2 (.clear zl1 (.loop b3_57)))) (.clear zl3 c3_76))) (blockK 1 (seqK (code L (.clear zl4 c3_83) (postK zl4 (loopK L b3_20 (blockK 0 (seqK (code L (.clear zl9 c3_84) (retK [.tmp 6])) (retK [.tmp 6])))))) (postK zl4 (loopK L b3_20 (blockK 0 (seqK (code L (.clear zl9 c3_84) (retK [.tmp 6])) (retK [.tmp 6])))))))) (blockK 1 (seqK (code L (.clear zl4 c3_83) (postK zl4 (loopK L b3_20 (blockK 0 (seqK (code L (.clear zl9 c3_84) (retK [.tmp 6])) (retK [.tmp 6])))))) (postK zl4 (loopK L b3_20 (blockK 0 (seqK (code L (.clear zl9 c3_84) (retK [.tmp 6])) (retK [.tmp 6]))))))))) (s3_38 x2 x2n x2c x3 x7 x8 x9 x10 x11 x12 x66 M) M) (P3_57 : Rec → (Option Addr) → Nat → Nat → Nat → Int → (Option Addr) → Nat → Nat → Int → Nat → (Option Addr) → Nat → Nat → Int → AMem → Res) (hP3_57 : Eq P3_57 fun L x2 x2n x2c x3 x7 x8 x9 x10 x11 x12 x13 x13n x13c x14 M => L.loop b3_57 (blockK 2 (seqK (code L (.clear zl3 c3_76) (blockK 1 (seqK (code L (.clear zl4 c3_83) (postK zl4 (loopK L b3_20 (blockK 0 (seqK (code L (.clear zl9 c3_84) (retK [.tmp 6])) (retK [.tmp 6])))))) (postK zl4 (loopK L b3_20 (blockK 0 (seqK (code L (.clear zl9 c3_84) (retK [.tmp 6])) (retK [.tmp 6])))))))) (blockK 1 (seqK (code L (.clear zl4 c3_83) (postK zl4 (loopK L b3_20 (blockK 0 (seqK (code L (.clear zl9 c3_84) (retK [.tmp 6])) (retK [.tmp 6])))))) (postK zl4 (loopK L b3_20 (blockK 0 (seqK (code L (.clear zl9 c3_84) (retK [.tmp 6])) (retK [.tmp 6]))))))))) (s3_57 x2 x2n x2c x3 x7 x8 x9 x10 x11 x12 x13 x13n x13c x14 M) M) (P3_84 : Rec → Nat → Int → (Option Addr) → Nat → Nat → AMem → Res) (hP3_84 : Eq P3_84 fun L x3 x7 x8 x9 x10 M => code L c3_84 (retK [.tmp 6]) (s3_84 x3 x7 x8 x9 x10 M) M) (x2 : Option Addr) (x2n : Nat) (x2c : Nat) (x3 : Nat) (x7 : Int) (x8 : Option Addr) (x9 : Nat) (x10 : Nat) (x11 : Int) (M : AMem) : P3_20 L x2 x2n x2c x3 x7 x8 x9 x10 x11 M =
  (if (decide (x11 < (Int.ofNat x2n))) = true
    then (match x2 with
      | some a_1 => (if (0 : Int) ≤ x11 ∧ x11 < (Int.ofNat x2n)
        then (Option.bind (boolOf? (AMem.ld M a_1.block (a_1.off + ((Int.toNat x11) * 6)))) fun q_2 =>
          (Option.bind (intOf? .i64 (AMem.ld M a_1.block ((a_1.off + ((Int.toNat x11) * 6)) + 1))) fun x_3 =>
          (Option.bind (intOf? .i64 (AMem.ld M a_1.block ((a_1.off + ((Int.toNat x11) * 6)) + 2))) fun x_4 =>
          (Option.bind (intOf? .i64 (AMem.ld M a_1.block ((a_1.off + ((Int.toNat x11) * 6)) + 3))) fun x_5 =>
          (Option.bind (intOf? .i64 (AMem.ld M a_1.block ((a_1.off + ((Int.toNat x11) * 6)) + 4))) fun x_6 =>
          (Option.bind (intOf? .i64 (AMem.ld M a_1.block ((a_1.off + ((Int.toNat x11) * 6)) + 5))) fun x_7 =>
          (Option.bind (AMem.wr (M ++ [AObj.cells [.bool false, .int .i64 0, .int .i64 0, .int .i64 0, .int .i64 0, .int .i64 0] ⟨false, 0⟩]) (List.length M) 0 [.bool q_2, .int .i64 x_3, .int .i64 x_4, .int .i64 x_5, .int .i64 x_6, .int .i64 x_7]) fun M_8 =>
          (Option.bind (boolOf? (AMem.ld M_8 (List.length M) 0)) fun q_9 =>
          (if (!q_9) = true
          then (Option.bind (intOf? .i64 (AMem.ld M_8 (List.length M) 1)) fun x_10 =>
            (Option.bind (intOf? .i64 (AMem.ld M_8 (List.length M) 2)) fun x_11 =>
            (Option.bind (intOf? .i64 (AMem.ld M_8 (List.length M) 3)) fun x_12 =>
            (Option.bind (intOf? .i64 (AMem.ld M_8 (List.length M) 4)) fun x_13 =>
            (Option.bind (L.call 7 [.pointer x8, .agg #[.int .i64 x_10, .int .i64 x_11, .int .i64 x_12, .int .i64 x_13]] M_8) fun r_14 =>
            (Option.bind (boolOf? (some r_14.1)) fun q_15 =>
            P3_38 L x2 x2n x2c x3 x7 x8 x9 x10 x11 (List.length M) q_15 r_14.2))))))
          else (Option.bind (intOf? .i64 (AMem.ld M_8 (List.length M) 5)) fun x_16 =>
            (Option.bind (L.call 8 [.pointer x8, .int .i64 x_16] M_8) fun r_17 =>
            (Option.bind (sliceOf? (some r_17.1)) fun s_18 =>
            P3_57 L x2 x2n x2c x3 x7 x8 x9 x10 x11 (List.length M) s_18.1 s_18.2.1 s_18.2.2 0 r_17.2))))))))))))
        else none)
      | none => none)
    else P3_84 L x3 x7 x8 x9 x10 M) := by
  subst hP3_20; subst hP3_38; subst hP3_57; subst hP3_84; exact (hb (blockK 0 (seqK (code L (.clear zl9 c3_84) (retK [.tmp 6])) (retK [.tmp 6]))) (s3_20 x2 x2n x2c x3 x7 x8 x9 x10 x11 M) M).trans (by kernel_rfl)
theorem P3_20_eq (L : Rec) (hL : ∀ b K t A, L.loop b K t A = code L b (loopK L b K) t A) (x2 : Option Addr) (x2n : Nat) (x2c : Nat) (x3 : Nat) (x7 : Int) (x8 : Option Addr) (x9 : Nat) (x10 : Nat) (x11 : Int) (M : AMem) : P3_20 L x2 x2n x2c x3 x7 x8 x9 x10 x11 M =
  (if (decide (x11 < (Int.ofNat x2n))) = true
    then (match x2 with
      | some a_1 => (if (0 : Int) ≤ x11 ∧ x11 < (Int.ofNat x2n)
        then (Option.bind (boolOf? (AMem.ld M a_1.block (a_1.off + ((Int.toNat x11) * 6)))) fun q_2 =>
          (Option.bind (intOf? .i64 (AMem.ld M a_1.block ((a_1.off + ((Int.toNat x11) * 6)) + 1))) fun x_3 =>
          (Option.bind (intOf? .i64 (AMem.ld M a_1.block ((a_1.off + ((Int.toNat x11) * 6)) + 2))) fun x_4 =>
          (Option.bind (intOf? .i64 (AMem.ld M a_1.block ((a_1.off + ((Int.toNat x11) * 6)) + 3))) fun x_5 =>
          (Option.bind (intOf? .i64 (AMem.ld M a_1.block ((a_1.off + ((Int.toNat x11) * 6)) + 4))) fun x_6 =>
          (Option.bind (intOf? .i64 (AMem.ld M a_1.block ((a_1.off + ((Int.toNat x11) * 6)) + 5))) fun x_7 =>
          (Option.bind (AMem.wr (M ++ [AObj.cells [.bool false, .int .i64 0, .int .i64 0, .int .i64 0, .int .i64 0, .int .i64 0] ⟨false, 0⟩]) (List.length M) 0 [.bool q_2, .int .i64 x_3, .int .i64 x_4, .int .i64 x_5, .int .i64 x_6, .int .i64 x_7]) fun M_8 =>
          (Option.bind (boolOf? (AMem.ld M_8 (List.length M) 0)) fun q_9 =>
          (if (!q_9) = true
          then (Option.bind (intOf? .i64 (AMem.ld M_8 (List.length M) 1)) fun x_10 =>
            (Option.bind (intOf? .i64 (AMem.ld M_8 (List.length M) 2)) fun x_11 =>
            (Option.bind (intOf? .i64 (AMem.ld M_8 (List.length M) 3)) fun x_12 =>
            (Option.bind (intOf? .i64 (AMem.ld M_8 (List.length M) 4)) fun x_13 =>
            (Option.bind (L.call 7 [.pointer x8, .agg #[.int .i64 x_10, .int .i64 x_11, .int .i64 x_12, .int .i64 x_13]] M_8) fun r_14 =>
            (Option.bind (boolOf? (some r_14.1)) fun q_15 =>
            P3_38 L x2 x2n x2c x3 x7 x8 x9 x10 x11 (List.length M) q_15 r_14.2))))))
          else (Option.bind (intOf? .i64 (AMem.ld M_8 (List.length M) 5)) fun x_16 =>
            (Option.bind (L.call 8 [.pointer x8, .int .i64 x_16] M_8) fun r_17 =>
            (Option.bind (sliceOf? (some r_17.1)) fun s_18 =>
            P3_57 L x2 x2n x2c x3 x7 x8 x9 x10 x11 (List.length M) s_18.1 s_18.2.1 s_18.2.2 0 r_17.2))))))))))))
        else none)
      | none => none)
    else P3_84 L x3 x7 x8 x9 x10 M) := QP3_20_eq L b3_20 b3_57 c3_38 c3_76 c3_83 c3_84 (hL b3_20) P3_20 (Classical.choose_spec XP3_20) P3_38 (Classical.choose_spec XP3_38) P3_57 (Classical.choose_spec XP3_57) P3_84 (Classical.choose_spec XP3_84) x2 x2n x2c x3 x7 x8 x9 x10 x11 M
theorem QP3_38_eq (L : Rec) (b3_20 b3_57 c3_76 c3_83 c3_84 : ACode) (P3_38 : Rec → (Option Addr) → Nat → Nat → Nat → Int → (Option Addr) → Nat → Nat → Int → Nat → Bool → AMem → Res) (hP3_38 : Eq P3_38 fun L x2 x2n x2c x3 x7 x8 x9 x10 x11 x12 x66 M => code L (.cond (.tmp 66) (.seq (.seq (.ops o3_41) (.cond (.tmp 78) (.seq (.ops o3_44) (.ret)) (.skip))) (.draw [] 0 o3_47 [])) (.skip)) (seqK (code L (.exit 1) (seqK (code L (.seq (.ops o3_52) (.seq (.seq (.ops o3_55) (.block 2 (.clear zl1 (.loop b3_57)))) (.clear zl3 c3_76))) (blockK 1 (seqK (code L (.clear zl4 c3_83) (postK zl4 (loopK L b3_20 (blockK 0 (seqK (code L (.clear zl9 c3_84) (retK [.tmp 6])) (retK [.tmp 6])))))) (postK zl4 (loopK L b3_20 (blockK 0 (seqK (code L (.clear zl9 c3_84) (retK [.tmp 6])) (retK [.tmp 6])))))))) (blockK 1 (seqK (code L (.clear zl4 c3_83) (postK zl4 (loopK L b3_20 (blockK 0 (seqK (code L (.clear zl9 c3_84) (retK [.tmp 6])) (retK [.tmp 6])))))) (postK zl4 (loopK L b3_20 (blockK 0 (seqK (code L (.clear zl9 c3_84) (retK [.tmp 6])) (retK [.tmp 6]))))))))) (seqK (code L (.seq (.ops o3_52) (.seq (.seq (.ops o3_55) (.block 2 (.clear zl1 (.loop b3_57)))) (.clear zl3 c3_76))) (blockK 1 (seqK (code L (.clear zl4 c3_83) (postK zl4 (loopK L b3_20 (blockK 0 (seqK (code L (.clear zl9 c3_84) (retK [.tmp 6])) (retK [.tmp 6])))))) (postK zl4 (loopK L b3_20 (blockK 0 (seqK (code L (.clear zl9 c3_84) (retK [.tmp 6])) (retK [.tmp 6])))))))) (blockK 1 (seqK (code L (.clear zl4 c3_83) (postK zl4 (loopK L b3_20 (blockK 0 (seqK (code L (.clear zl9 c3_84) (retK [.tmp 6])) (retK [.tmp 6])))))) (postK zl4 (loopK L b3_20 (blockK 0 (seqK (code L (.clear zl9 c3_84) (retK [.tmp 6])) (retK [.tmp 6]))))))))) (s3_38 x2 x2n x2c x3 x7 x8 x9 x10 x11 x12 x66 M) M) (P3_83 : Rec → (Option Addr) → Nat → Nat → Nat → Int → (Option Addr) → Nat → Nat → Int → AMem → Res) (hP3_83 : Eq P3_83 fun L x2 x2n x2c x3 x7 x8 x9 x10 x11 M => code L c3_83 (postK zl4 (loopK L b3_20 (blockK 0 (seqK (code L (.clear zl9 c3_84) (retK [.tmp 6])) (retK [.tmp 6]))))) (s3_83 x2 x2n x2c x3 x7 x8 x9 x10 x11 M) M) (x2 : Option Addr) (x2n : Nat) (x2c : Nat) (x3 : Nat) (x7 : Int) (x8 : Option Addr) (x9 : Nat) (x10 : Nat) (x11 : Int) (x12 : Nat) (x66 : Bool) (M : AMem) : P3_38 L x2 x2n x2c x3 x7 x8 x9 x10 x11 x12 x66 M =
  (if x66 = true
    then (Option.bind (intOf? .i64 (AMem.ld M x12 1)) fun x_1 =>
      (if (decide (x_1 < 0)) = true
      then some (.bool false, M)
      else (Option.bind (intOf? .i64 (AMem.ld M x12 1)) fun x_2 =>
        (Option.bind (intOf? .i64 (AMem.ld M x3 0)) fun x_3 =>
        (if (decide (x_2 ≥ x_3)) = true
        then some (.bool false, M)
        else (Option.bind (intOf? .i64 (AMem.ld M x12 1)) fun x_4 =>
          (Option.bind (intOf? .i64 (AMem.ld M x12 1)) fun x_5 =>
          (if (0 : Int) ≤ x_5 ∧ x_5 < 64
          then (Option.bind (intOf? .u64 (AMem.ld M x9 (0 + ((Int.toNat x_5) * 1)))) fun x_6 =>
            (Option.bind (intOf? .i64 (AMem.ld M x12 3)) fun x_7 =>
            (if (0 : Int) ≤ x_4 ∧ x_4 < 64
            then (Option.bind (AMem.wr M x9 (0 + ((Int.toNat x_4) * 1)) [.int .u64 (IntKind.wrap .u64 (x_6 + (IntKind.wrap .u64 x_7)))]) fun M_8 =>
              P3_83 L x2 x2n x2c x3 x7 x8 x9 x10 x11 M_8)
            else none)))
          else none))))))))
    else P3_83 L x2 x2n x2c x3 x7 x8 x9 x10 x11 M) := by
  subst hP3_38; subst hP3_83; kernel_rfl
theorem P3_38_eq (L : Rec) (x2 : Option Addr) (x2n : Nat) (x2c : Nat) (x3 : Nat) (x7 : Int) (x8 : Option Addr) (x9 : Nat) (x10 : Nat) (x11 : Int) (x12 : Nat) (x66 : Bool) (M : AMem) : P3_38 L x2 x2n x2c x3 x7 x8 x9 x10 x11 x12 x66 M =
  (if x66 = true
    then (Option.bind (intOf? .i64 (AMem.ld M x12 1)) fun x_1 =>
      (if (decide (x_1 < 0)) = true
      then some (.bool false, M)
      else (Option.bind (intOf? .i64 (AMem.ld M x12 1)) fun x_2 =>
        (Option.bind (intOf? .i64 (AMem.ld M x3 0)) fun x_3 =>
        (if (decide (x_2 ≥ x_3)) = true
        then some (.bool false, M)
        else (Option.bind (intOf? .i64 (AMem.ld M x12 1)) fun x_4 =>
          (Option.bind (intOf? .i64 (AMem.ld M x12 1)) fun x_5 =>
          (if (0 : Int) ≤ x_5 ∧ x_5 < 64
          then (Option.bind (intOf? .u64 (AMem.ld M x9 (0 + ((Int.toNat x_5) * 1)))) fun x_6 =>
            (Option.bind (intOf? .i64 (AMem.ld M x12 3)) fun x_7 =>
            (if (0 : Int) ≤ x_4 ∧ x_4 < 64
            then (Option.bind (AMem.wr M x9 (0 + ((Int.toNat x_4) * 1)) [.int .u64 (IntKind.wrap .u64 (x_6 + (IntKind.wrap .u64 x_7)))]) fun M_8 =>
              P3_83 L x2 x2n x2c x3 x7 x8 x9 x10 x11 M_8)
            else none)))
          else none))))))))
    else P3_83 L x2 x2n x2c x3 x7 x8 x9 x10 x11 M) := QP3_38_eq L b3_20 b3_57 c3_76 c3_83 c3_84 P3_38 (Classical.choose_spec XP3_38) P3_83 (Classical.choose_spec XP3_83) x2 x2n x2c x3 x7 x8 x9 x10 x11 x12 x66 M
theorem QP3_57_eq (L : Rec) (b3_20 b3_57 c3_69 c3_75 c3_76 c3_83 c3_84 : ACode) (hb : ∀ K t A, L.loop b3_57 K t A = code L (.post (.seq (.seq (.ops o3_60) (.cond (.tmp 101) (.skip) (.exit 2))) (.seq (.block 3 (.seq (.seq (.draw [] 0 o3_68 []) (.clear zl0 c3_69)) (.draw [] 0 o3_74 []))) (.clear zl1 c3_75))) zl1) (loopK L b3_57 K) t A) (P3_57 : Rec → (Option Addr) → Nat → Nat → Nat → Int → (Option Addr) → Nat → Nat → Int → Nat → (Option Addr) → Nat → Nat → Int → AMem → Res) (hP3_57 : Eq P3_57 fun L x2 x2n x2c x3 x7 x8 x9 x10 x11 x12 x13 x13n x13c x14 M => L.loop b3_57 (blockK 2 (seqK (code L (.clear zl3 c3_76) (blockK 1 (seqK (code L (.clear zl4 c3_83) (postK zl4 (loopK L b3_20 (blockK 0 (seqK (code L (.clear zl9 c3_84) (retK [.tmp 6])) (retK [.tmp 6])))))) (postK zl4 (loopK L b3_20 (blockK 0 (seqK (code L (.clear zl9 c3_84) (retK [.tmp 6])) (retK [.tmp 6])))))))) (blockK 1 (seqK (code L (.clear zl4 c3_83) (postK zl4 (loopK L b3_20 (blockK 0 (seqK (code L (.clear zl9 c3_84) (retK [.tmp 6])) (retK [.tmp 6])))))) (postK zl4 (loopK L b3_20 (blockK 0 (seqK (code L (.clear zl9 c3_84) (retK [.tmp 6])) (retK [.tmp 6]))))))))) (s3_57 x2 x2n x2c x3 x7 x8 x9 x10 x11 x12 x13 x13n x13c x14 M) M) (P3_69 : Rec → (Option Addr) → Nat → Nat → Nat → Int → (Option Addr) → Nat → Nat → Int → Nat → (Option Addr) → Nat → Nat → Int → Bool → AMem → Res) (hP3_69 : Eq P3_69 fun L x2 x2n x2c x3 x7 x8 x9 x10 x11 x12 x13 x13n x13c x14 x132 M => code L c3_69 (seqK (code L (.draw [] 0 o3_74 []) (blockK 3 (seqK (code L (.clear zl1 c3_75) (postK zl1 (loopK L b3_57 (blockK 2 (seqK (code L (.clear zl3 c3_76) (blockK 1 (seqK (code L (.clear zl4 c3_83) (postK zl4 (loopK L b3_20 (blockK 0 (seqK (code L (.clear zl9 c3_84) (retK [.tmp 6])) (retK [.tmp 6])))))) (postK zl4 (loopK L b3_20 (blockK 0 (seqK (code L (.clear zl9 c3_84) (retK [.tmp 6])) (retK [.tmp 6])))))))) (blockK 1 (seqK (code L (.clear zl4 c3_83) (postK zl4 (loopK L b3_20 (blockK 0 (seqK (code L (.clear zl9 c3_84) (retK [.tmp 6])) (retK [.tmp 6])))))) (postK zl4 (loopK L b3_20 (blockK 0 (seqK (code L (.clear zl9 c3_84) (retK [.tmp 6])) (retK [.tmp 6])))))))))))) (postK zl1 (loopK L b3_57 (blockK 2 (seqK (code L (.clear zl3 c3_76) (blockK 1 (seqK (code L (.clear zl4 c3_83) (postK zl4 (loopK L b3_20 (blockK 0 (seqK (code L (.clear zl9 c3_84) (retK [.tmp 6])) (retK [.tmp 6])))))) (postK zl4 (loopK L b3_20 (blockK 0 (seqK (code L (.clear zl9 c3_84) (retK [.tmp 6])) (retK [.tmp 6])))))))) (blockK 1 (seqK (code L (.clear zl4 c3_83) (postK zl4 (loopK L b3_20 (blockK 0 (seqK (code L (.clear zl9 c3_84) (retK [.tmp 6])) (retK [.tmp 6])))))) (postK zl4 (loopK L b3_20 (blockK 0 (seqK (code L (.clear zl9 c3_84) (retK [.tmp 6])) (retK [.tmp 6])))))))))))))) (blockK 3 (seqK (code L (.clear zl1 c3_75) (postK zl1 (loopK L b3_57 (blockK 2 (seqK (code L (.clear zl3 c3_76) (blockK 1 (seqK (code L (.clear zl4 c3_83) (postK zl4 (loopK L b3_20 (blockK 0 (seqK (code L (.clear zl9 c3_84) (retK [.tmp 6])) (retK [.tmp 6])))))) (postK zl4 (loopK L b3_20 (blockK 0 (seqK (code L (.clear zl9 c3_84) (retK [.tmp 6])) (retK [.tmp 6])))))))) (blockK 1 (seqK (code L (.clear zl4 c3_83) (postK zl4 (loopK L b3_20 (blockK 0 (seqK (code L (.clear zl9 c3_84) (retK [.tmp 6])) (retK [.tmp 6])))))) (postK zl4 (loopK L b3_20 (blockK 0 (seqK (code L (.clear zl9 c3_84) (retK [.tmp 6])) (retK [.tmp 6])))))))))))) (postK zl1 (loopK L b3_57 (blockK 2 (seqK (code L (.clear zl3 c3_76) (blockK 1 (seqK (code L (.clear zl4 c3_83) (postK zl4 (loopK L b3_20 (blockK 0 (seqK (code L (.clear zl9 c3_84) (retK [.tmp 6])) (retK [.tmp 6])))))) (postK zl4 (loopK L b3_20 (blockK 0 (seqK (code L (.clear zl9 c3_84) (retK [.tmp 6])) (retK [.tmp 6])))))))) (blockK 1 (seqK (code L (.clear zl4 c3_83) (postK zl4 (loopK L b3_20 (blockK 0 (seqK (code L (.clear zl9 c3_84) (retK [.tmp 6])) (retK [.tmp 6])))))) (postK zl4 (loopK L b3_20 (blockK 0 (seqK (code L (.clear zl9 c3_84) (retK [.tmp 6])) (retK [.tmp 6])))))))))))))) (s3_69 x2 x2n x2c x3 x7 x8 x9 x10 x11 x12 x13 x13n x13c x14 x132 M) M) (P3_76 : Rec → (Option Addr) → Nat → Nat → Nat → Int → (Option Addr) → Nat → Nat → Int → Nat → AMem → Res) (hP3_76 : Eq P3_76 fun L x2 x2n x2c x3 x7 x8 x9 x10 x11 x12 M => code L c3_76 (blockK 1 (seqK (code L (.clear zl4 c3_83) (postK zl4 (loopK L b3_20 (blockK 0 (seqK (code L (.clear zl9 c3_84) (retK [.tmp 6])) (retK [.tmp 6])))))) (postK zl4 (loopK L b3_20 (blockK 0 (seqK (code L (.clear zl9 c3_84) (retK [.tmp 6])) (retK [.tmp 6]))))))) (s3_76 x2 x2n x2c x3 x7 x8 x9 x10 x11 x12 M) M) (x2 : Option Addr) (x2n : Nat) (x2c : Nat) (x3 : Nat) (x7 : Int) (x8 : Option Addr) (x9 : Nat) (x10 : Nat) (x11 : Int) (x12 : Nat) (x13 : Option Addr) (x13n : Nat) (x13c : Nat) (x14 : Int) (M : AMem) : P3_57 L x2 x2n x2c x3 x7 x8 x9 x10 x11 x12 x13 x13n x13c x14 M =
  (if (decide (x14 < (Int.ofNat x13n))) = true
    then (match x13 with
      | some a_1 => (if (0 : Int) ≤ x14 ∧ x14 < (Int.ofNat x13n)
        then (Option.bind (intOf? .i64 (AMem.ld M a_1.block (a_1.off + ((Int.toNat x14) * 4)))) fun x_2 =>
          (if (decide (x_2 < 0)) = true
          then P3_69 L x2 x2n x2c x3 x7 x8 x9 x10 x11 x12 x13 x13n x13c x14 true M
          else (match x13 with
            | some a_3 => (if (0 : Int) ≤ x14 ∧ x14 < (Int.ofNat x13n)
              then (Option.bind (intOf? .i64 (AMem.ld M a_3.block (a_3.off + ((Int.toNat x14) * 4)))) fun x_4 =>
                (Option.bind (intOf? .i64 (AMem.ld M x3 0)) fun x_5 =>
                (if (decide (x_4 ≥ x_5)) = true
                then P3_69 L x2 x2n x2c x3 x7 x8 x9 x10 x11 x12 x13 x13n x13c x14 true M
                else (match x13 with
                  | some a_6 => (if (0 : Int) ≤ x14 ∧ x14 < (Int.ofNat x13n)
                    then (Option.bind (intOf? .i64 (AMem.ld M a_6.block (a_6.off + ((Int.toNat x14) * 4)))) fun x_7 =>
                      (Option.bind (intOf? .i64 (AMem.ld M x3 1)) fun x_8 =>
                      (if x_8 = 0
                      then none
                      else (Option.bind (intOf? .i64 (AMem.ld M x12 5)) fun x_9 =>
                        P3_69 L x2 x2n x2c x3 x7 x8 x9 x10 x11 x12 x13 x13n x13c x14 ((Int.tmod x_7 x_8) != x_9) M))))
                    else none)
                  | none => none))))
              else none)
            | none => none)))
        else none)
      | none => none)
    else P3_76 L x2 x2n x2c x3 x7 x8 x9 x10 x11 x12 M) := by
  subst hP3_57; subst hP3_69; subst hP3_76; exact (hb (blockK 2 (seqK (code L (.clear zl3 c3_76) (blockK 1 (seqK (code L (.clear zl4 c3_83) (postK zl4 (loopK L b3_20 (blockK 0 (seqK (code L (.clear zl9 c3_84) (retK [.tmp 6])) (retK [.tmp 6])))))) (postK zl4 (loopK L b3_20 (blockK 0 (seqK (code L (.clear zl9 c3_84) (retK [.tmp 6])) (retK [.tmp 6])))))))) (blockK 1 (seqK (code L (.clear zl4 c3_83) (postK zl4 (loopK L b3_20 (blockK 0 (seqK (code L (.clear zl9 c3_84) (retK [.tmp 6])) (retK [.tmp 6])))))) (postK zl4 (loopK L b3_20 (blockK 0 (seqK (code L (.clear zl9 c3_84) (retK [.tmp 6])) (retK [.tmp 6]))))))))) (s3_57 x2 x2n x2c x3 x7 x8 x9 x10 x11 x12 x13 x13n x13c x14 M) M).trans (by kernel_rfl)
theorem P3_57_eq (L : Rec) (hL : ∀ b K t A, L.loop b K t A = code L b (loopK L b K) t A) (x2 : Option Addr) (x2n : Nat) (x2c : Nat) (x3 : Nat) (x7 : Int) (x8 : Option Addr) (x9 : Nat) (x10 : Nat) (x11 : Int) (x12 : Nat) (x13 : Option Addr) (x13n : Nat) (x13c : Nat) (x14 : Int) (M : AMem) : P3_57 L x2 x2n x2c x3 x7 x8 x9 x10 x11 x12 x13 x13n x13c x14 M =
  (if (decide (x14 < (Int.ofNat x13n))) = true
    then (match x13 with
      | some a_1 => (if (0 : Int) ≤ x14 ∧ x14 < (Int.ofNat x13n)
        then (Option.bind (intOf? .i64 (AMem.ld M a_1.block (a_1.off + ((Int.toNat x14) * 4)))) fun x_2 =>
          (if (decide (x_2 < 0)) = true
          then P3_69 L x2 x2n x2c x3 x7 x8 x9 x10 x11 x12 x13 x13n x13c x14 true M
          else (match x13 with
            | some a_3 => (if (0 : Int) ≤ x14 ∧ x14 < (Int.ofNat x13n)
              then (Option.bind (intOf? .i64 (AMem.ld M a_3.block (a_3.off + ((Int.toNat x14) * 4)))) fun x_4 =>
                (Option.bind (intOf? .i64 (AMem.ld M x3 0)) fun x_5 =>
                (if (decide (x_4 ≥ x_5)) = true
                then P3_69 L x2 x2n x2c x3 x7 x8 x9 x10 x11 x12 x13 x13n x13c x14 true M
                else (match x13 with
                  | some a_6 => (if (0 : Int) ≤ x14 ∧ x14 < (Int.ofNat x13n)
                    then (Option.bind (intOf? .i64 (AMem.ld M a_6.block (a_6.off + ((Int.toNat x14) * 4)))) fun x_7 =>
                      (Option.bind (intOf? .i64 (AMem.ld M x3 1)) fun x_8 =>
                      (if x_8 = 0
                      then none
                      else (Option.bind (intOf? .i64 (AMem.ld M x12 5)) fun x_9 =>
                        P3_69 L x2 x2n x2c x3 x7 x8 x9 x10 x11 x12 x13 x13n x13c x14 ((Int.tmod x_7 x_8) != x_9) M))))
                    else none)
                  | none => none))))
              else none)
            | none => none)))
        else none)
      | none => none)
    else P3_76 L x2 x2n x2c x3 x7 x8 x9 x10 x11 x12 M) := QP3_57_eq L b3_20 b3_57 c3_69 c3_75 c3_76 c3_83 c3_84 (hL b3_57) P3_57 (Classical.choose_spec XP3_57) P3_69 (Classical.choose_spec XP3_69) P3_76 (Classical.choose_spec XP3_76) x2 x2n x2c x3 x7 x8 x9 x10 x11 x12 x13 x13n x13c x14 M
theorem QP3_84_eq (L : Rec) (b3_100 c3_136 : ACode) (P3_84 : Rec → Nat → Int → (Option Addr) → Nat → Nat → AMem → Res) (hP3_84 : Eq P3_84 fun L x3 x7 x8 x9 x10 M => code L (.seq (.seq (.ops o3_86) (.cond (.tmp 162) (.seq (.ops o3_89) (.ret)) (.skip))) (.seq (.ops o3_93) (.seq (.ops o3_95) (.seq (.seq (.ops o3_98) (.block 4 (.clear zl7 (.loop b3_100)))) (.clear zl8 c3_136))))) (retK [.tmp 6]) (s3_84 x3 x7 x8 x9 x10 M) M) (P3_100 : Rec → Nat → Int → (Option Addr) → Nat → Nat → (Option Addr) → Nat → Nat → Int → Int → AMem → Res) (hP3_100 : Eq P3_100 fun L x3 x7 x8 x9 x10 x15 x15n x15c x16 x17 M => L.loop b3_100 (blockK 4 (seqK (code L (.clear zl8 c3_136) (retK [.tmp 6])) (retK [.tmp 6]))) (s3_100 x3 x7 x8 x9 x10 x15 x15n x15c x16 x17 M) M) (x3 : Nat) (x7 : Int) (x8 : Option Addr) (x9 : Nat) (x10 : Nat) (M : AMem) : P3_84 L x3 x7 x8 x9 x10 M =
  (Option.bind (L.call 9 [.pointer x8] M) fun r_1 =>
    (Option.bind (intOf? .i64 (some r_1.1)) fun x_2 =>
    (if (decide (x_2 > x7)) = true
    then some (.bool false, r_1.2)
    else (Option.bind (L.call 10 [.pointer x8] r_1.2) fun r_3 =>
      (Option.bind (sliceOf? (some r_3.1)) fun s_4 =>
      P3_100 L x3 x7 x8 x9 x10 s_4.1 s_4.2.1 s_4.2.2 0 0 r_3.2))))) := by
  subst hP3_84; subst hP3_100; kernel_rfl
theorem P3_84_eq (L : Rec) (x3 : Nat) (x7 : Int) (x8 : Option Addr) (x9 : Nat) (x10 : Nat) (M : AMem) : P3_84 L x3 x7 x8 x9 x10 M =
  (Option.bind (L.call 9 [.pointer x8] M) fun r_1 =>
    (Option.bind (intOf? .i64 (some r_1.1)) fun x_2 =>
    (if (decide (x_2 > x7)) = true
    then some (.bool false, r_1.2)
    else (Option.bind (L.call 10 [.pointer x8] r_1.2) fun r_3 =>
      (Option.bind (sliceOf? (some r_3.1)) fun s_4 =>
      P3_100 L x3 x7 x8 x9 x10 s_4.1 s_4.2.1 s_4.2.2 0 0 r_3.2))))) := QP3_84_eq L b3_100 c3_136 P3_84 (Classical.choose_spec XP3_84) P3_100 (Classical.choose_spec XP3_100) x3 x7 x8 x9 x10 M
theorem QP3_83_eq (L : Rec) (b3_20 c3_84 : ACode) (P3_20 : Rec → (Option Addr) → Nat → Nat → Nat → Int → (Option Addr) → Nat → Nat → Int → AMem → Res) (hP3_20 : Eq P3_20 fun L x2 x2n x2c x3 x7 x8 x9 x10 x11 M => L.loop b3_20 (blockK 0 (seqK (code L (.clear zl9 c3_84) (retK [.tmp 6])) (retK [.tmp 6]))) (s3_20 x2 x2n x2c x3 x7 x8 x9 x10 x11 M) M) (P3_83 : Rec → (Option Addr) → Nat → Nat → Nat → Int → (Option Addr) → Nat → Nat → Int → AMem → Res) (hP3_83 : Eq P3_83 fun L x2 x2n x2c x3 x7 x8 x9 x10 x11 M => code L (.ops o3_83) (postK zl4 (loopK L b3_20 (blockK 0 (seqK (code L (.clear zl9 c3_84) (retK [.tmp 6])) (retK [.tmp 6]))))) (s3_83 x2 x2n x2c x3 x7 x8 x9 x10 x11 M) M) (x2 : Option Addr) (x2n : Nat) (x2c : Nat) (x3 : Nat) (x7 : Int) (x8 : Option Addr) (x9 : Nat) (x10 : Nat) (x11 : Int) (M : AMem) : P3_83 L x2 x2n x2c x3 x7 x8 x9 x10 x11 M =
  P3_20 L x2 x2n x2c x3 x7 x8 x9 x10 (IntKind.wrap .i64 (x11 + 1)) M := by
  subst hP3_20; subst hP3_83; kernel_rfl
theorem P3_83_eq (L : Rec) (x2 : Option Addr) (x2n : Nat) (x2c : Nat) (x3 : Nat) (x7 : Int) (x8 : Option Addr) (x9 : Nat) (x10 : Nat) (x11 : Int) (M : AMem) : P3_83 L x2 x2n x2c x3 x7 x8 x9 x10 x11 M =
  P3_20 L x2 x2n x2c x3 x7 x8 x9 x10 (IntKind.wrap .i64 (x11 + 1)) M := QP3_83_eq L b3_20 c3_84 P3_20 (Classical.choose_spec XP3_20) P3_83 (Classical.choose_spec XP3_83) x2 x2n x2c x3 x7 x8 x9 x10 x11 M
theorem QP3_69_eq (L : Rec) (b3_20 b3_57 c3_75 c3_76 c3_83 c3_84 : ACode) (P3_69 : Rec → (Option Addr) → Nat → Nat → Nat → Int → (Option Addr) → Nat → Nat → Int → Nat → (Option Addr) → Nat → Nat → Int → Bool → AMem → Res) (hP3_69 : Eq P3_69 fun L x2 x2n x2c x3 x7 x8 x9 x10 x11 x12 x13 x13n x13c x14 x132 M => code L (.cond (.tmp 132) (.seq (.ops o3_71) (.ret)) (.skip)) (seqK (code L (.draw [] 0 o3_74 []) (blockK 3 (seqK (code L (.clear zl1 c3_75) (postK zl1 (loopK L b3_57 (blockK 2 (seqK (code L (.clear zl3 c3_76) (blockK 1 (seqK (code L (.clear zl4 c3_83) (postK zl4 (loopK L b3_20 (blockK 0 (seqK (code L (.clear zl9 c3_84) (retK [.tmp 6])) (retK [.tmp 6])))))) (postK zl4 (loopK L b3_20 (blockK 0 (seqK (code L (.clear zl9 c3_84) (retK [.tmp 6])) (retK [.tmp 6])))))))) (blockK 1 (seqK (code L (.clear zl4 c3_83) (postK zl4 (loopK L b3_20 (blockK 0 (seqK (code L (.clear zl9 c3_84) (retK [.tmp 6])) (retK [.tmp 6])))))) (postK zl4 (loopK L b3_20 (blockK 0 (seqK (code L (.clear zl9 c3_84) (retK [.tmp 6])) (retK [.tmp 6])))))))))))) (postK zl1 (loopK L b3_57 (blockK 2 (seqK (code L (.clear zl3 c3_76) (blockK 1 (seqK (code L (.clear zl4 c3_83) (postK zl4 (loopK L b3_20 (blockK 0 (seqK (code L (.clear zl9 c3_84) (retK [.tmp 6])) (retK [.tmp 6])))))) (postK zl4 (loopK L b3_20 (blockK 0 (seqK (code L (.clear zl9 c3_84) (retK [.tmp 6])) (retK [.tmp 6])))))))) (blockK 1 (seqK (code L (.clear zl4 c3_83) (postK zl4 (loopK L b3_20 (blockK 0 (seqK (code L (.clear zl9 c3_84) (retK [.tmp 6])) (retK [.tmp 6])))))) (postK zl4 (loopK L b3_20 (blockK 0 (seqK (code L (.clear zl9 c3_84) (retK [.tmp 6])) (retK [.tmp 6])))))))))))))) (blockK 3 (seqK (code L (.clear zl1 c3_75) (postK zl1 (loopK L b3_57 (blockK 2 (seqK (code L (.clear zl3 c3_76) (blockK 1 (seqK (code L (.clear zl4 c3_83) (postK zl4 (loopK L b3_20 (blockK 0 (seqK (code L (.clear zl9 c3_84) (retK [.tmp 6])) (retK [.tmp 6])))))) (postK zl4 (loopK L b3_20 (blockK 0 (seqK (code L (.clear zl9 c3_84) (retK [.tmp 6])) (retK [.tmp 6])))))))) (blockK 1 (seqK (code L (.clear zl4 c3_83) (postK zl4 (loopK L b3_20 (blockK 0 (seqK (code L (.clear zl9 c3_84) (retK [.tmp 6])) (retK [.tmp 6])))))) (postK zl4 (loopK L b3_20 (blockK 0 (seqK (code L (.clear zl9 c3_84) (retK [.tmp 6])) (retK [.tmp 6])))))))))))) (postK zl1 (loopK L b3_57 (blockK 2 (seqK (code L (.clear zl3 c3_76) (blockK 1 (seqK (code L (.clear zl4 c3_83) (postK zl4 (loopK L b3_20 (blockK 0 (seqK (code L (.clear zl9 c3_84) (retK [.tmp 6])) (retK [.tmp 6])))))) (postK zl4 (loopK L b3_20 (blockK 0 (seqK (code L (.clear zl9 c3_84) (retK [.tmp 6])) (retK [.tmp 6])))))))) (blockK 1 (seqK (code L (.clear zl4 c3_83) (postK zl4 (loopK L b3_20 (blockK 0 (seqK (code L (.clear zl9 c3_84) (retK [.tmp 6])) (retK [.tmp 6])))))) (postK zl4 (loopK L b3_20 (blockK 0 (seqK (code L (.clear zl9 c3_84) (retK [.tmp 6])) (retK [.tmp 6])))))))))))))) (s3_69 x2 x2n x2c x3 x7 x8 x9 x10 x11 x12 x13 x13n x13c x14 x132 M) M) (P3_75 : Rec → (Option Addr) → Nat → Nat → Nat → Int → (Option Addr) → Nat → Nat → Int → Nat → (Option Addr) → Nat → Nat → Int → AMem → Res) (hP3_75 : Eq P3_75 fun L x2 x2n x2c x3 x7 x8 x9 x10 x11 x12 x13 x13n x13c x14 M => code L c3_75 (postK zl1 (loopK L b3_57 (blockK 2 (seqK (code L (.clear zl3 c3_76) (blockK 1 (seqK (code L (.clear zl4 c3_83) (postK zl4 (loopK L b3_20 (blockK 0 (seqK (code L (.clear zl9 c3_84) (retK [.tmp 6])) (retK [.tmp 6])))))) (postK zl4 (loopK L b3_20 (blockK 0 (seqK (code L (.clear zl9 c3_84) (retK [.tmp 6])) (retK [.tmp 6])))))))) (blockK 1 (seqK (code L (.clear zl4 c3_83) (postK zl4 (loopK L b3_20 (blockK 0 (seqK (code L (.clear zl9 c3_84) (retK [.tmp 6])) (retK [.tmp 6])))))) (postK zl4 (loopK L b3_20 (blockK 0 (seqK (code L (.clear zl9 c3_84) (retK [.tmp 6])) (retK [.tmp 6]))))))))))) (s3_75 x2 x2n x2c x3 x7 x8 x9 x10 x11 x12 x13 x13n x13c x14 M) M) (x2 : Option Addr) (x2n : Nat) (x2c : Nat) (x3 : Nat) (x7 : Int) (x8 : Option Addr) (x9 : Nat) (x10 : Nat) (x11 : Int) (x12 : Nat) (x13 : Option Addr) (x13n : Nat) (x13c : Nat) (x14 : Int) (x132 : Bool) (M : AMem) : P3_69 L x2 x2n x2c x3 x7 x8 x9 x10 x11 x12 x13 x13n x13c x14 x132 M =
  (if x132 = true
    then some (.bool false, M)
    else (match x13 with
      | some a_1 => (if (0 : Int) ≤ x14 ∧ x14 < (Int.ofNat x13n)
        then (Option.bind (intOf? .i64 (AMem.ld M a_1.block (a_1.off + ((Int.toNat x14) * 4)))) fun x_2 =>
          (match x13 with
          | some a_3 => (if (0 : Int) ≤ x14 ∧ x14 < (Int.ofNat x13n)
            then (Option.bind (intOf? .i64 (AMem.ld M a_3.block (a_3.off + ((Int.toNat x14) * 4)))) fun x_4 =>
              (if (0 : Int) ≤ x_4 ∧ x_4 < 64
              then (Option.bind (intOf? .u64 (AMem.ld M x10 (0 + ((Int.toNat x_4) * 1)))) fun x_5 =>
                (match x13 with
                | some a_6 => (if (0 : Int) ≤ x14 ∧ x14 < (Int.ofNat x13n)
                  then (Option.bind (intOf? .u64 (AMem.ld M a_6.block (((a_6.off + ((Int.toNat x14) * 4)) + 1) + 1))) fun x_7 =>
                    (if (0 : Int) ≤ x_2 ∧ x_2 < 64
                    then (Option.bind (AMem.wr M x10 (0 + ((Int.toNat x_2) * 1)) [.int .u64 (IntKind.wrap .u64 (x_5 + x_7))]) fun M_8 =>
                      P3_75 L x2 x2n x2c x3 x7 x8 x9 x10 x11 x12 x13 x13n x13c x14 M_8)
                    else none))
                  else none)
                | none => none))
              else none))
            else none)
          | none => none))
        else none)
      | none => none)) := by
  subst hP3_69; subst hP3_75; kernel_rfl
theorem P3_69_eq (L : Rec) (x2 : Option Addr) (x2n : Nat) (x2c : Nat) (x3 : Nat) (x7 : Int) (x8 : Option Addr) (x9 : Nat) (x10 : Nat) (x11 : Int) (x12 : Nat) (x13 : Option Addr) (x13n : Nat) (x13c : Nat) (x14 : Int) (x132 : Bool) (M : AMem) : P3_69 L x2 x2n x2c x3 x7 x8 x9 x10 x11 x12 x13 x13n x13c x14 x132 M =
  (if x132 = true
    then some (.bool false, M)
    else (match x13 with
      | some a_1 => (if (0 : Int) ≤ x14 ∧ x14 < (Int.ofNat x13n)
        then (Option.bind (intOf? .i64 (AMem.ld M a_1.block (a_1.off + ((Int.toNat x14) * 4)))) fun x_2 =>
          (match x13 with
          | some a_3 => (if (0 : Int) ≤ x14 ∧ x14 < (Int.ofNat x13n)
            then (Option.bind (intOf? .i64 (AMem.ld M a_3.block (a_3.off + ((Int.toNat x14) * 4)))) fun x_4 =>
              (if (0 : Int) ≤ x_4 ∧ x_4 < 64
              then (Option.bind (intOf? .u64 (AMem.ld M x10 (0 + ((Int.toNat x_4) * 1)))) fun x_5 =>
                (match x13 with
                | some a_6 => (if (0 : Int) ≤ x14 ∧ x14 < (Int.ofNat x13n)
                  then (Option.bind (intOf? .u64 (AMem.ld M a_6.block (((a_6.off + ((Int.toNat x14) * 4)) + 1) + 1))) fun x_7 =>
                    (if (0 : Int) ≤ x_2 ∧ x_2 < 64
                    then (Option.bind (AMem.wr M x10 (0 + ((Int.toNat x_2) * 1)) [.int .u64 (IntKind.wrap .u64 (x_5 + x_7))]) fun M_8 =>
                      P3_75 L x2 x2n x2c x3 x7 x8 x9 x10 x11 x12 x13 x13n x13c x14 M_8)
                    else none))
                  else none)
                | none => none))
              else none))
            else none)
          | none => none))
        else none)
      | none => none)) := QP3_69_eq L b3_20 b3_57 c3_75 c3_76 c3_83 c3_84 P3_69 (Classical.choose_spec XP3_69) P3_75 (Classical.choose_spec XP3_75) x2 x2n x2c x3 x7 x8 x9 x10 x11 x12 x13 x13n x13c x14 x132 M
theorem QP3_76_eq (L : Rec) (b3_20 c3_83 c3_84 : ACode) (P3_83 : Rec → (Option Addr) → Nat → Nat → Nat → Int → (Option Addr) → Nat → Nat → Int → AMem → Res) (hP3_83 : Eq P3_83 fun L x2 x2n x2c x3 x7 x8 x9 x10 x11 M => code L c3_83 (postK zl4 (loopK L b3_20 (blockK 0 (seqK (code L (.clear zl9 c3_84) (retK [.tmp 6])) (retK [.tmp 6]))))) (s3_83 x2 x2n x2c x3 x7 x8 x9 x10 x11 M) M) (P3_76 : Rec → (Option Addr) → Nat → Nat → Nat → Int → (Option Addr) → Nat → Nat → Int → Nat → AMem → Res) (hP3_76 : Eq P3_76 fun L x2 x2n x2c x3 x7 x8 x9 x10 x11 x12 M => code L (.seq (.ops o3_77) (.cond (.tmp 158) (.seq (.ops o3_80) (.ret)) (.skip))) (blockK 1 (seqK (code L (.clear zl4 c3_83) (postK zl4 (loopK L b3_20 (blockK 0 (seqK (code L (.clear zl9 c3_84) (retK [.tmp 6])) (retK [.tmp 6])))))) (postK zl4 (loopK L b3_20 (blockK 0 (seqK (code L (.clear zl9 c3_84) (retK [.tmp 6])) (retK [.tmp 6]))))))) (s3_76 x2 x2n x2c x3 x7 x8 x9 x10 x11 x12 M) M) (x2 : Option Addr) (x2n : Nat) (x2c : Nat) (x3 : Nat) (x7 : Int) (x8 : Option Addr) (x9 : Nat) (x10 : Nat) (x11 : Int) (x12 : Nat) (M : AMem) : P3_76 L x2 x2n x2c x3 x7 x8 x9 x10 x11 x12 M =
  (Option.bind (intOf? .i64 (AMem.ld M x12 5)) fun x_1 =>
    (Option.bind (L.call 8 [.pointer x8, .int .i64 x_1] M) fun r_2 =>
    (Option.bind (sliceOf? (some r_2.1)) fun s_3 =>
    (if (decide ((Int.ofNat s_3.2.1) > 0)) = true
    then some (.bool false, r_2.2)
    else P3_83 L x2 x2n x2c x3 x7 x8 x9 x10 x11 r_2.2)))) := by
  subst hP3_83; subst hP3_76; kernel_rfl
theorem P3_76_eq (L : Rec) (x2 : Option Addr) (x2n : Nat) (x2c : Nat) (x3 : Nat) (x7 : Int) (x8 : Option Addr) (x9 : Nat) (x10 : Nat) (x11 : Int) (x12 : Nat) (M : AMem) : P3_76 L x2 x2n x2c x3 x7 x8 x9 x10 x11 x12 M =
  (Option.bind (intOf? .i64 (AMem.ld M x12 5)) fun x_1 =>
    (Option.bind (L.call 8 [.pointer x8, .int .i64 x_1] M) fun r_2 =>
    (Option.bind (sliceOf? (some r_2.1)) fun s_3 =>
    (if (decide ((Int.ofNat s_3.2.1) > 0)) = true
    then some (.bool false, r_2.2)
    else P3_83 L x2 x2n x2c x3 x7 x8 x9 x10 x11 r_2.2)))) := QP3_76_eq L b3_20 c3_83 c3_84 P3_83 (Classical.choose_spec XP3_83) P3_76 (Classical.choose_spec XP3_76) x2 x2n x2c x3 x7 x8 x9 x10 x11 x12 M
theorem QP3_100_eq (L : Rec) (b3_100 c3_113 c3_135 c3_136 : ACode) (hb : ∀ K t A, L.loop b3_100 K t A = code L (.post (.seq (.seq (.ops o3_103) (.cond (.tmp 168) (.skip) (.exit 4))) (.seq (.block 5 (.seq (.ops o3_110) (.seq (.ops o3_112) (.clear zl6 c3_113)))) (.clear zl7 c3_135))) zl7) (loopK L b3_100 K) t A) (P3_100 : Rec → Nat → Int → (Option Addr) → Nat → Nat → (Option Addr) → Nat → Nat → Int → Int → AMem → Res) (hP3_100 : Eq P3_100 fun L x3 x7 x8 x9 x10 x15 x15n x15c x16 x17 M => L.loop b3_100 (blockK 4 (seqK (code L (.clear zl8 c3_136) (retK [.tmp 6])) (retK [.tmp 6]))) (s3_100 x3 x7 x8 x9 x10 x15 x15n x15c x16 x17 M) M) (P3_113 : Rec → Nat → Int → (Option Addr) → Nat → Nat → (Option Addr) → Nat → Nat → Int → Int → (Option Addr) → Nat → Nat → AMem → Res) (hP3_113 : Eq P3_113 fun L x3 x7 x8 x9 x10 x15 x15n x15c x16 x17 x18 x18n x18c M => code L c3_113 (blockK 5 (seqK (code L (.clear zl7 c3_135) (postK zl7 (loopK L b3_100 (blockK 4 (seqK (code L (.clear zl8 c3_136) (retK [.tmp 6])) (retK [.tmp 6])))))) (postK zl7 (loopK L b3_100 (blockK 4 (seqK (code L (.clear zl8 c3_136) (retK [.tmp 6])) (retK [.tmp 6]))))))) (s3_113 x3 x7 x8 x9 x10 x15 x15n x15c x16 x17 x18 x18n x18c M) M) (P3_136 : Rec → Int → (Option Addr) → Nat → Nat → Int → AMem → Res) (hP3_136 : Eq P3_136 fun L x7 x8 x9 x10 x16 M => code L c3_136 (retK [.tmp 6]) (s3_136 x7 x8 x9 x10 x16 M) M) (x3 : Nat) (x7 : Int) (x8 : Option Addr) (x9 : Nat) (x10 : Nat) (x15 : Option Addr) (x15n : Nat) (x15c : Nat) (x16 : Int) (x17 : Int) (M : AMem) : P3_100 L x3 x7 x8 x9 x10 x15 x15n x15c x16 x17 M =
  (if (decide (x17 < (Int.ofNat x15n))) = true
    then (match x15 with
      | some a_1 => (if (0 : Int) ≤ x17 ∧ x17 < (Int.ofNat x15n)
        then (Option.bind (intOf? .i64 (AMem.ld M a_1.block (a_1.off + ((Int.toNat x17) * 1)))) fun x_2 =>
          (Option.bind (L.call 8 [.pointer x8, .int .i64 x_2] M) fun r_3 =>
          (Option.bind (sliceOf? (some r_3.1)) fun s_4 =>
          P3_113 L x3 x7 x8 x9 x10 x15 x15n x15c (IntKind.wrap .i64 (x16 + (Int.ofNat s_4.2.1))) x17 s_4.1 s_4.2.1 s_4.2.2 r_3.2)))
        else none)
      | none => none)
    else P3_136 L x7 x8 x9 x10 x16 M) := by
  subst hP3_100; subst hP3_113; subst hP3_136; exact (hb (blockK 4 (seqK (code L (.clear zl8 c3_136) (retK [.tmp 6])) (retK [.tmp 6]))) (s3_100 x3 x7 x8 x9 x10 x15 x15n x15c x16 x17 M) M).trans (by kernel_rfl)
theorem P3_100_eq (L : Rec) (hL : ∀ b K t A, L.loop b K t A = code L b (loopK L b K) t A) (x3 : Nat) (x7 : Int) (x8 : Option Addr) (x9 : Nat) (x10 : Nat) (x15 : Option Addr) (x15n : Nat) (x15c : Nat) (x16 : Int) (x17 : Int) (M : AMem) : P3_100 L x3 x7 x8 x9 x10 x15 x15n x15c x16 x17 M =
  (if (decide (x17 < (Int.ofNat x15n))) = true
    then (match x15 with
      | some a_1 => (if (0 : Int) ≤ x17 ∧ x17 < (Int.ofNat x15n)
        then (Option.bind (intOf? .i64 (AMem.ld M a_1.block (a_1.off + ((Int.toNat x17) * 1)))) fun x_2 =>
          (Option.bind (L.call 8 [.pointer x8, .int .i64 x_2] M) fun r_3 =>
          (Option.bind (sliceOf? (some r_3.1)) fun s_4 =>
          P3_113 L x3 x7 x8 x9 x10 x15 x15n x15c (IntKind.wrap .i64 (x16 + (Int.ofNat s_4.2.1))) x17 s_4.1 s_4.2.1 s_4.2.2 r_3.2)))
        else none)
      | none => none)
    else P3_136 L x7 x8 x9 x10 x16 M) := QP3_100_eq L b3_100 c3_113 c3_135 c3_136 (hL b3_100) P3_100 (Classical.choose_spec XP3_100) P3_113 (Classical.choose_spec XP3_113) P3_136 (Classical.choose_spec XP3_136) x3 x7 x8 x9 x10 x15 x15n x15c x16 x17 M
theorem QP3_75_eq (L : Rec) (b3_20 b3_57 c3_76 c3_83 c3_84 : ACode) (P3_57 : Rec → (Option Addr) → Nat → Nat → Nat → Int → (Option Addr) → Nat → Nat → Int → Nat → (Option Addr) → Nat → Nat → Int → AMem → Res) (hP3_57 : Eq P3_57 fun L x2 x2n x2c x3 x7 x8 x9 x10 x11 x12 x13 x13n x13c x14 M => L.loop b3_57 (blockK 2 (seqK (code L (.clear zl3 c3_76) (blockK 1 (seqK (code L (.clear zl4 c3_83) (postK zl4 (loopK L b3_20 (blockK 0 (seqK (code L (.clear zl9 c3_84) (retK [.tmp 6])) (retK [.tmp 6])))))) (postK zl4 (loopK L b3_20 (blockK 0 (seqK (code L (.clear zl9 c3_84) (retK [.tmp 6])) (retK [.tmp 6])))))))) (blockK 1 (seqK (code L (.clear zl4 c3_83) (postK zl4 (loopK L b3_20 (blockK 0 (seqK (code L (.clear zl9 c3_84) (retK [.tmp 6])) (retK [.tmp 6])))))) (postK zl4 (loopK L b3_20 (blockK 0 (seqK (code L (.clear zl9 c3_84) (retK [.tmp 6])) (retK [.tmp 6]))))))))) (s3_57 x2 x2n x2c x3 x7 x8 x9 x10 x11 x12 x13 x13n x13c x14 M) M) (P3_75 : Rec → (Option Addr) → Nat → Nat → Nat → Int → (Option Addr) → Nat → Nat → Int → Nat → (Option Addr) → Nat → Nat → Int → AMem → Res) (hP3_75 : Eq P3_75 fun L x2 x2n x2c x3 x7 x8 x9 x10 x11 x12 x13 x13n x13c x14 M => code L (.ops o3_75) (postK zl1 (loopK L b3_57 (blockK 2 (seqK (code L (.clear zl3 c3_76) (blockK 1 (seqK (code L (.clear zl4 c3_83) (postK zl4 (loopK L b3_20 (blockK 0 (seqK (code L (.clear zl9 c3_84) (retK [.tmp 6])) (retK [.tmp 6])))))) (postK zl4 (loopK L b3_20 (blockK 0 (seqK (code L (.clear zl9 c3_84) (retK [.tmp 6])) (retK [.tmp 6])))))))) (blockK 1 (seqK (code L (.clear zl4 c3_83) (postK zl4 (loopK L b3_20 (blockK 0 (seqK (code L (.clear zl9 c3_84) (retK [.tmp 6])) (retK [.tmp 6])))))) (postK zl4 (loopK L b3_20 (blockK 0 (seqK (code L (.clear zl9 c3_84) (retK [.tmp 6])) (retK [.tmp 6]))))))))))) (s3_75 x2 x2n x2c x3 x7 x8 x9 x10 x11 x12 x13 x13n x13c x14 M) M) (x2 : Option Addr) (x2n : Nat) (x2c : Nat) (x3 : Nat) (x7 : Int) (x8 : Option Addr) (x9 : Nat) (x10 : Nat) (x11 : Int) (x12 : Nat) (x13 : Option Addr) (x13n : Nat) (x13c : Nat) (x14 : Int) (M : AMem) : P3_75 L x2 x2n x2c x3 x7 x8 x9 x10 x11 x12 x13 x13n x13c x14 M =
  P3_57 L x2 x2n x2c x3 x7 x8 x9 x10 x11 x12 x13 x13n x13c (IntKind.wrap .i64 (x14 + 1)) M := by
  subst hP3_57; subst hP3_75; kernel_rfl
theorem P3_75_eq (L : Rec) (x2 : Option Addr) (x2n : Nat) (x2c : Nat) (x3 : Nat) (x7 : Int) (x8 : Option Addr) (x9 : Nat) (x10 : Nat) (x11 : Int) (x12 : Nat) (x13 : Option Addr) (x13n : Nat) (x13c : Nat) (x14 : Int) (M : AMem) : P3_75 L x2 x2n x2c x3 x7 x8 x9 x10 x11 x12 x13 x13n x13c x14 M =
  P3_57 L x2 x2n x2c x3 x7 x8 x9 x10 x11 x12 x13 x13n x13c (IntKind.wrap .i64 (x14 + 1)) M := QP3_75_eq L b3_20 b3_57 c3_76 c3_83 c3_84 P3_57 (Classical.choose_spec XP3_57) P3_75 (Classical.choose_spec XP3_75) x2 x2n x2c x3 x7 x8 x9 x10 x11 x12 x13 x13n x13c x14 M
theorem QP3_113_eq (L : Rec) (b3_100 b3_116 c3_135 c3_136 : ACode) (P3_113 : Rec → Nat → Int → (Option Addr) → Nat → Nat → (Option Addr) → Nat → Nat → Int → Int → (Option Addr) → Nat → Nat → AMem → Res) (hP3_113 : Eq P3_113 fun L x3 x7 x8 x9 x10 x15 x15n x15c x16 x17 x18 x18n x18c M => code L (.seq (.ops o3_114) (.block 6 (.clear zl5 (.loop b3_116)))) (blockK 5 (seqK (code L (.clear zl7 c3_135) (postK zl7 (loopK L b3_100 (blockK 4 (seqK (code L (.clear zl8 c3_136) (retK [.tmp 6])) (retK [.tmp 6])))))) (postK zl7 (loopK L b3_100 (blockK 4 (seqK (code L (.clear zl8 c3_136) (retK [.tmp 6])) (retK [.tmp 6]))))))) (s3_113 x3 x7 x8 x9 x10 x15 x15n x15c x16 x17 x18 x18n x18c M) M) (P3_116 : Rec → Nat → Int → (Option Addr) → Nat → Nat → (Option Addr) → Nat → Nat → Int → Int → (Option Addr) → Nat → Nat → Int → AMem → Res) (hP3_116 : Eq P3_116 fun L x3 x7 x8 x9 x10 x15 x15n x15c x16 x17 x18 x18n x18c x19 M => L.loop b3_116 (blockK 6 (blockK 5 (seqK (code L (.clear zl7 c3_135) (postK zl7 (loopK L b3_100 (blockK 4 (seqK (code L (.clear zl8 c3_136) (retK [.tmp 6])) (retK [.tmp 6])))))) (postK zl7 (loopK L b3_100 (blockK 4 (seqK (code L (.clear zl8 c3_136) (retK [.tmp 6])) (retK [.tmp 6])))))))) (s3_116 x3 x7 x8 x9 x10 x15 x15n x15c x16 x17 x18 x18n x18c x19 M) M) (x3 : Nat) (x7 : Int) (x8 : Option Addr) (x9 : Nat) (x10 : Nat) (x15 : Option Addr) (x15n : Nat) (x15c : Nat) (x16 : Int) (x17 : Int) (x18 : Option Addr) (x18n : Nat) (x18c : Nat) (M : AMem) : P3_113 L x3 x7 x8 x9 x10 x15 x15n x15c x16 x17 x18 x18n x18c M =
  P3_116 L x3 x7 x8 x9 x10 x15 x15n x15c x16 x17 x18 x18n x18c 0 M := by
  subst hP3_113; subst hP3_116; kernel_rfl
theorem P3_113_eq (L : Rec) (x3 : Nat) (x7 : Int) (x8 : Option Addr) (x9 : Nat) (x10 : Nat) (x15 : Option Addr) (x15n : Nat) (x15c : Nat) (x16 : Int) (x17 : Int) (x18 : Option Addr) (x18n : Nat) (x18c : Nat) (M : AMem) : P3_113 L x3 x7 x8 x9 x10 x15 x15n x15c x16 x17 x18 x18n x18c M =
  P3_116 L x3 x7 x8 x9 x10 x15 x15n x15c x16 x17 x18 x18n x18c 0 M := QP3_113_eq L b3_100 b3_116 c3_135 c3_136 P3_113 (Classical.choose_spec XP3_113) P3_116 (Classical.choose_spec XP3_116) x3 x7 x8 x9 x10 x15 x15n x15c x16 x17 x18 x18n x18c M
theorem QP3_136_eq (L : Rec) (P3_136 : Rec → Int → (Option Addr) → Nat → Nat → Int → AMem → Res) (hP3_136 : Eq P3_136 fun L x7 x8 x9 x10 x16 M => code L (.seq (.ops o3_137) (.ret)) (retK [.tmp 6]) (s3_136 x7 x8 x9 x10 x16 M) M) (x7 : Int) (x8 : Option Addr) (x9 : Nat) (x10 : Nat) (x16 : Int) (M : AMem) : P3_136 L x7 x8 x9 x10 x16 M =
  (Option.bind (intOf? .u64 (AMem.ld M x9 0)) fun x_1 =>
    (Option.bind (intOf? .u64 (AMem.ld M x9 1)) fun x_2 =>
    (Option.bind (intOf? .u64 (AMem.ld M x9 2)) fun x_3 =>
    (Option.bind (intOf? .u64 (AMem.ld M x9 3)) fun x_4 =>
    (Option.bind (intOf? .u64 (AMem.ld M x9 4)) fun x_5 =>
    (Option.bind (intOf? .u64 (AMem.ld M x9 5)) fun x_6 =>
    (Option.bind (intOf? .u64 (AMem.ld M x9 6)) fun x_7 =>
    (Option.bind (intOf? .u64 (AMem.ld M x9 7)) fun x_8 =>
    (Option.bind (intOf? .u64 (AMem.ld M x9 8)) fun x_9 =>
    (Option.bind (intOf? .u64 (AMem.ld M x9 9)) fun x_10 =>
    (Option.bind (intOf? .u64 (AMem.ld M x9 10)) fun x_11 =>
    (Option.bind (intOf? .u64 (AMem.ld M x9 11)) fun x_12 =>
    (Option.bind (intOf? .u64 (AMem.ld M x9 12)) fun x_13 =>
    (Option.bind (intOf? .u64 (AMem.ld M x9 13)) fun x_14 =>
    (Option.bind (intOf? .u64 (AMem.ld M x9 14)) fun x_15 =>
    (Option.bind (intOf? .u64 (AMem.ld M x9 15)) fun x_16 =>
    (Option.bind (intOf? .u64 (AMem.ld M x9 16)) fun x_17 =>
    (Option.bind (intOf? .u64 (AMem.ld M x9 17)) fun x_18 =>
    (Option.bind (intOf? .u64 (AMem.ld M x9 18)) fun x_19 =>
    (Option.bind (intOf? .u64 (AMem.ld M x9 19)) fun x_20 =>
    (Option.bind (intOf? .u64 (AMem.ld M x9 20)) fun x_21 =>
    (Option.bind (intOf? .u64 (AMem.ld M x9 21)) fun x_22 =>
    (Option.bind (intOf? .u64 (AMem.ld M x9 22)) fun x_23 =>
    (Option.bind (intOf? .u64 (AMem.ld M x9 23)) fun x_24 =>
    (Option.bind (intOf? .u64 (AMem.ld M x9 24)) fun x_25 =>
    (Option.bind (intOf? .u64 (AMem.ld M x9 25)) fun x_26 =>
    (Option.bind (intOf? .u64 (AMem.ld M x9 26)) fun x_27 =>
    (Option.bind (intOf? .u64 (AMem.ld M x9 27)) fun x_28 =>
    (Option.bind (intOf? .u64 (AMem.ld M x9 28)) fun x_29 =>
    (Option.bind (intOf? .u64 (AMem.ld M x9 29)) fun x_30 =>
    (Option.bind (intOf? .u64 (AMem.ld M x9 30)) fun x_31 =>
    (Option.bind (intOf? .u64 (AMem.ld M x9 31)) fun x_32 =>
    (Option.bind (intOf? .u64 (AMem.ld M x9 32)) fun x_33 =>
    (Option.bind (intOf? .u64 (AMem.ld M x9 33)) fun x_34 =>
    (Option.bind (intOf? .u64 (AMem.ld M x9 34)) fun x_35 =>
    (Option.bind (intOf? .u64 (AMem.ld M x9 35)) fun x_36 =>
    (Option.bind (intOf? .u64 (AMem.ld M x9 36)) fun x_37 =>
    (Option.bind (intOf? .u64 (AMem.ld M x9 37)) fun x_38 =>
    (Option.bind (intOf? .u64 (AMem.ld M x9 38)) fun x_39 =>
    (Option.bind (intOf? .u64 (AMem.ld M x9 39)) fun x_40 =>
    (Option.bind (intOf? .u64 (AMem.ld M x9 40)) fun x_41 =>
    (Option.bind (intOf? .u64 (AMem.ld M x9 41)) fun x_42 =>
    (Option.bind (intOf? .u64 (AMem.ld M x9 42)) fun x_43 =>
    (Option.bind (intOf? .u64 (AMem.ld M x9 43)) fun x_44 =>
    (Option.bind (intOf? .u64 (AMem.ld M x9 44)) fun x_45 =>
    (Option.bind (intOf? .u64 (AMem.ld M x9 45)) fun x_46 =>
    (Option.bind (intOf? .u64 (AMem.ld M x9 46)) fun x_47 =>
    (Option.bind (intOf? .u64 (AMem.ld M x9 47)) fun x_48 =>
    (Option.bind (intOf? .u64 (AMem.ld M x9 48)) fun x_49 =>
    (Option.bind (intOf? .u64 (AMem.ld M x9 49)) fun x_50 =>
    (Option.bind (intOf? .u64 (AMem.ld M x9 50)) fun x_51 =>
    (Option.bind (intOf? .u64 (AMem.ld M x9 51)) fun x_52 =>
    (Option.bind (intOf? .u64 (AMem.ld M x9 52)) fun x_53 =>
    (Option.bind (intOf? .u64 (AMem.ld M x9 53)) fun x_54 =>
    (Option.bind (intOf? .u64 (AMem.ld M x9 54)) fun x_55 =>
    (Option.bind (intOf? .u64 (AMem.ld M x9 55)) fun x_56 =>
    (Option.bind (intOf? .u64 (AMem.ld M x9 56)) fun x_57 =>
    (Option.bind (intOf? .u64 (AMem.ld M x9 57)) fun x_58 =>
    (Option.bind (intOf? .u64 (AMem.ld M x9 58)) fun x_59 =>
    (Option.bind (intOf? .u64 (AMem.ld M x9 59)) fun x_60 =>
    (Option.bind (intOf? .u64 (AMem.ld M x9 60)) fun x_61 =>
    (Option.bind (intOf? .u64 (AMem.ld M x9 61)) fun x_62 =>
    (Option.bind (intOf? .u64 (AMem.ld M x9 62)) fun x_63 =>
    (Option.bind (intOf? .u64 (AMem.ld M x9 63)) fun x_64 =>
    (Option.bind (intOf? .u64 (AMem.ld M x10 0)) fun x_65 =>
    (Option.bind (intOf? .u64 (AMem.ld M x10 1)) fun x_66 =>
    (Option.bind (intOf? .u64 (AMem.ld M x10 2)) fun x_67 =>
    (Option.bind (intOf? .u64 (AMem.ld M x10 3)) fun x_68 =>
    (Option.bind (intOf? .u64 (AMem.ld M x10 4)) fun x_69 =>
    (Option.bind (intOf? .u64 (AMem.ld M x10 5)) fun x_70 =>
    (Option.bind (intOf? .u64 (AMem.ld M x10 6)) fun x_71 =>
    (Option.bind (intOf? .u64 (AMem.ld M x10 7)) fun x_72 =>
    (Option.bind (intOf? .u64 (AMem.ld M x10 8)) fun x_73 =>
    (Option.bind (intOf? .u64 (AMem.ld M x10 9)) fun x_74 =>
    (Option.bind (intOf? .u64 (AMem.ld M x10 10)) fun x_75 =>
    (Option.bind (intOf? .u64 (AMem.ld M x10 11)) fun x_76 =>
    (Option.bind (intOf? .u64 (AMem.ld M x10 12)) fun x_77 =>
    (Option.bind (intOf? .u64 (AMem.ld M x10 13)) fun x_78 =>
    (Option.bind (intOf? .u64 (AMem.ld M x10 14)) fun x_79 =>
    (Option.bind (intOf? .u64 (AMem.ld M x10 15)) fun x_80 =>
    (Option.bind (intOf? .u64 (AMem.ld M x10 16)) fun x_81 =>
    (Option.bind (intOf? .u64 (AMem.ld M x10 17)) fun x_82 =>
    (Option.bind (intOf? .u64 (AMem.ld M x10 18)) fun x_83 =>
    (Option.bind (intOf? .u64 (AMem.ld M x10 19)) fun x_84 =>
    (Option.bind (intOf? .u64 (AMem.ld M x10 20)) fun x_85 =>
    (Option.bind (intOf? .u64 (AMem.ld M x10 21)) fun x_86 =>
    (Option.bind (intOf? .u64 (AMem.ld M x10 22)) fun x_87 =>
    (Option.bind (intOf? .u64 (AMem.ld M x10 23)) fun x_88 =>
    (Option.bind (intOf? .u64 (AMem.ld M x10 24)) fun x_89 =>
    (Option.bind (intOf? .u64 (AMem.ld M x10 25)) fun x_90 =>
    (Option.bind (intOf? .u64 (AMem.ld M x10 26)) fun x_91 =>
    (Option.bind (intOf? .u64 (AMem.ld M x10 27)) fun x_92 =>
    (Option.bind (intOf? .u64 (AMem.ld M x10 28)) fun x_93 =>
    (Option.bind (intOf? .u64 (AMem.ld M x10 29)) fun x_94 =>
    (Option.bind (intOf? .u64 (AMem.ld M x10 30)) fun x_95 =>
    (Option.bind (intOf? .u64 (AMem.ld M x10 31)) fun x_96 =>
    (Option.bind (intOf? .u64 (AMem.ld M x10 32)) fun x_97 =>
    (Option.bind (intOf? .u64 (AMem.ld M x10 33)) fun x_98 =>
    (Option.bind (intOf? .u64 (AMem.ld M x10 34)) fun x_99 =>
    (Option.bind (intOf? .u64 (AMem.ld M x10 35)) fun x_100 =>
    (Option.bind (intOf? .u64 (AMem.ld M x10 36)) fun x_101 =>
    (Option.bind (intOf? .u64 (AMem.ld M x10 37)) fun x_102 =>
    (Option.bind (intOf? .u64 (AMem.ld M x10 38)) fun x_103 =>
    (Option.bind (intOf? .u64 (AMem.ld M x10 39)) fun x_104 =>
    (Option.bind (intOf? .u64 (AMem.ld M x10 40)) fun x_105 =>
    (Option.bind (intOf? .u64 (AMem.ld M x10 41)) fun x_106 =>
    (Option.bind (intOf? .u64 (AMem.ld M x10 42)) fun x_107 =>
    (Option.bind (intOf? .u64 (AMem.ld M x10 43)) fun x_108 =>
    (Option.bind (intOf? .u64 (AMem.ld M x10 44)) fun x_109 =>
    (Option.bind (intOf? .u64 (AMem.ld M x10 45)) fun x_110 =>
    (Option.bind (intOf? .u64 (AMem.ld M x10 46)) fun x_111 =>
    (Option.bind (intOf? .u64 (AMem.ld M x10 47)) fun x_112 =>
    (Option.bind (intOf? .u64 (AMem.ld M x10 48)) fun x_113 =>
    (Option.bind (intOf? .u64 (AMem.ld M x10 49)) fun x_114 =>
    (Option.bind (intOf? .u64 (AMem.ld M x10 50)) fun x_115 =>
    (Option.bind (intOf? .u64 (AMem.ld M x10 51)) fun x_116 =>
    (Option.bind (intOf? .u64 (AMem.ld M x10 52)) fun x_117 =>
    (Option.bind (intOf? .u64 (AMem.ld M x10 53)) fun x_118 =>
    (Option.bind (intOf? .u64 (AMem.ld M x10 54)) fun x_119 =>
    (Option.bind (intOf? .u64 (AMem.ld M x10 55)) fun x_120 =>
    (Option.bind (intOf? .u64 (AMem.ld M x10 56)) fun x_121 =>
    (Option.bind (intOf? .u64 (AMem.ld M x10 57)) fun x_122 =>
    (Option.bind (intOf? .u64 (AMem.ld M x10 58)) fun x_123 =>
    (Option.bind (intOf? .u64 (AMem.ld M x10 59)) fun x_124 =>
    (Option.bind (intOf? .u64 (AMem.ld M x10 60)) fun x_125 =>
    (Option.bind (intOf? .u64 (AMem.ld M x10 61)) fun x_126 =>
    (Option.bind (intOf? .u64 (AMem.ld M x10 62)) fun x_127 =>
    (Option.bind (intOf? .u64 (AMem.ld M x10 63)) fun x_128 =>
    (if ((x_1 == x_65) && ((x_2 == x_66) && ((x_3 == x_67) && ((x_4 == x_68) && ((x_5 == x_69) && ((x_6 == x_70) && ((x_7 == x_71) && ((x_8 == x_72) && ((x_9 == x_73) && ((x_10 == x_74) && ((x_11 == x_75) && ((x_12 == x_76) && ((x_13 == x_77) && ((x_14 == x_78) && ((x_15 == x_79) && ((x_16 == x_80) && ((x_17 == x_81) && ((x_18 == x_82) && ((x_19 == x_83) && ((x_20 == x_84) && ((x_21 == x_85) && ((x_22 == x_86) && ((x_23 == x_87) && ((x_24 == x_88) && ((x_25 == x_89) && ((x_26 == x_90) && ((x_27 == x_91) && ((x_28 == x_92) && ((x_29 == x_93) && ((x_30 == x_94) && ((x_31 == x_95) && ((x_32 == x_96) && ((x_33 == x_97) && ((x_34 == x_98) && ((x_35 == x_99) && ((x_36 == x_100) && ((x_37 == x_101) && ((x_38 == x_102) && ((x_39 == x_103) && ((x_40 == x_104) && ((x_41 == x_105) && ((x_42 == x_106) && ((x_43 == x_107) && ((x_44 == x_108) && ((x_45 == x_109) && ((x_46 == x_110) && ((x_47 == x_111) && ((x_48 == x_112) && ((x_49 == x_113) && ((x_50 == x_114) && ((x_51 == x_115) && ((x_52 == x_116) && ((x_53 == x_117) && ((x_54 == x_118) && ((x_55 == x_119) && ((x_56 == x_120) && ((x_57 == x_121) && ((x_58 == x_122) && ((x_59 == x_123) && ((x_60 == x_124) && ((x_61 == x_125) && ((x_62 == x_126) && ((x_63 == x_127) && (x_64 == x_128)))))))))))))))))))))))))))))))))))))))))))))))))))))))))))))))) = true
    then (Option.bind (L.call 9 [.pointer x8] M) fun r_129 =>
      (Option.bind (intOf? .i64 (some r_129.1)) fun x_130 =>
      (if (x_130 == 0) = true
      then (if (decide (x16 ≤ x7)) = true
        then (Option.bind (L.call 5 [] []) fun r_131 =>
          (Option.bind (boolOf? (some r_131.1)) fun q_132 =>
          some (.bool q_132, r_129.2)))
        else some (.bool false, r_129.2))
      else some (.bool false, r_129.2))))
    else some (.bool false, M)))))))))))))))))))))))))))))))))))))))))))))))))))))))))))))))))))))))))))))))))))))))))))))))))))))))))))))))))))))))))))))))))) := by
  subst hP3_136; kernel_rfl
theorem P3_136_eq (L : Rec) (x7 : Int) (x8 : Option Addr) (x9 : Nat) (x10 : Nat) (x16 : Int) (M : AMem) : P3_136 L x7 x8 x9 x10 x16 M =
  (Option.bind (intOf? .u64 (AMem.ld M x9 0)) fun x_1 =>
    (Option.bind (intOf? .u64 (AMem.ld M x9 1)) fun x_2 =>
    (Option.bind (intOf? .u64 (AMem.ld M x9 2)) fun x_3 =>
    (Option.bind (intOf? .u64 (AMem.ld M x9 3)) fun x_4 =>
    (Option.bind (intOf? .u64 (AMem.ld M x9 4)) fun x_5 =>
    (Option.bind (intOf? .u64 (AMem.ld M x9 5)) fun x_6 =>
    (Option.bind (intOf? .u64 (AMem.ld M x9 6)) fun x_7 =>
    (Option.bind (intOf? .u64 (AMem.ld M x9 7)) fun x_8 =>
    (Option.bind (intOf? .u64 (AMem.ld M x9 8)) fun x_9 =>
    (Option.bind (intOf? .u64 (AMem.ld M x9 9)) fun x_10 =>
    (Option.bind (intOf? .u64 (AMem.ld M x9 10)) fun x_11 =>
    (Option.bind (intOf? .u64 (AMem.ld M x9 11)) fun x_12 =>
    (Option.bind (intOf? .u64 (AMem.ld M x9 12)) fun x_13 =>
    (Option.bind (intOf? .u64 (AMem.ld M x9 13)) fun x_14 =>
    (Option.bind (intOf? .u64 (AMem.ld M x9 14)) fun x_15 =>
    (Option.bind (intOf? .u64 (AMem.ld M x9 15)) fun x_16 =>
    (Option.bind (intOf? .u64 (AMem.ld M x9 16)) fun x_17 =>
    (Option.bind (intOf? .u64 (AMem.ld M x9 17)) fun x_18 =>
    (Option.bind (intOf? .u64 (AMem.ld M x9 18)) fun x_19 =>
    (Option.bind (intOf? .u64 (AMem.ld M x9 19)) fun x_20 =>
    (Option.bind (intOf? .u64 (AMem.ld M x9 20)) fun x_21 =>
    (Option.bind (intOf? .u64 (AMem.ld M x9 21)) fun x_22 =>
    (Option.bind (intOf? .u64 (AMem.ld M x9 22)) fun x_23 =>
    (Option.bind (intOf? .u64 (AMem.ld M x9 23)) fun x_24 =>
    (Option.bind (intOf? .u64 (AMem.ld M x9 24)) fun x_25 =>
    (Option.bind (intOf? .u64 (AMem.ld M x9 25)) fun x_26 =>
    (Option.bind (intOf? .u64 (AMem.ld M x9 26)) fun x_27 =>
    (Option.bind (intOf? .u64 (AMem.ld M x9 27)) fun x_28 =>
    (Option.bind (intOf? .u64 (AMem.ld M x9 28)) fun x_29 =>
    (Option.bind (intOf? .u64 (AMem.ld M x9 29)) fun x_30 =>
    (Option.bind (intOf? .u64 (AMem.ld M x9 30)) fun x_31 =>
    (Option.bind (intOf? .u64 (AMem.ld M x9 31)) fun x_32 =>
    (Option.bind (intOf? .u64 (AMem.ld M x9 32)) fun x_33 =>
    (Option.bind (intOf? .u64 (AMem.ld M x9 33)) fun x_34 =>
    (Option.bind (intOf? .u64 (AMem.ld M x9 34)) fun x_35 =>
    (Option.bind (intOf? .u64 (AMem.ld M x9 35)) fun x_36 =>
    (Option.bind (intOf? .u64 (AMem.ld M x9 36)) fun x_37 =>
    (Option.bind (intOf? .u64 (AMem.ld M x9 37)) fun x_38 =>
    (Option.bind (intOf? .u64 (AMem.ld M x9 38)) fun x_39 =>
    (Option.bind (intOf? .u64 (AMem.ld M x9 39)) fun x_40 =>
    (Option.bind (intOf? .u64 (AMem.ld M x9 40)) fun x_41 =>
    (Option.bind (intOf? .u64 (AMem.ld M x9 41)) fun x_42 =>
    (Option.bind (intOf? .u64 (AMem.ld M x9 42)) fun x_43 =>
    (Option.bind (intOf? .u64 (AMem.ld M x9 43)) fun x_44 =>
    (Option.bind (intOf? .u64 (AMem.ld M x9 44)) fun x_45 =>
    (Option.bind (intOf? .u64 (AMem.ld M x9 45)) fun x_46 =>
    (Option.bind (intOf? .u64 (AMem.ld M x9 46)) fun x_47 =>
    (Option.bind (intOf? .u64 (AMem.ld M x9 47)) fun x_48 =>
    (Option.bind (intOf? .u64 (AMem.ld M x9 48)) fun x_49 =>
    (Option.bind (intOf? .u64 (AMem.ld M x9 49)) fun x_50 =>
    (Option.bind (intOf? .u64 (AMem.ld M x9 50)) fun x_51 =>
    (Option.bind (intOf? .u64 (AMem.ld M x9 51)) fun x_52 =>
    (Option.bind (intOf? .u64 (AMem.ld M x9 52)) fun x_53 =>
    (Option.bind (intOf? .u64 (AMem.ld M x9 53)) fun x_54 =>
    (Option.bind (intOf? .u64 (AMem.ld M x9 54)) fun x_55 =>
    (Option.bind (intOf? .u64 (AMem.ld M x9 55)) fun x_56 =>
    (Option.bind (intOf? .u64 (AMem.ld M x9 56)) fun x_57 =>
    (Option.bind (intOf? .u64 (AMem.ld M x9 57)) fun x_58 =>
    (Option.bind (intOf? .u64 (AMem.ld M x9 58)) fun x_59 =>
    (Option.bind (intOf? .u64 (AMem.ld M x9 59)) fun x_60 =>
    (Option.bind (intOf? .u64 (AMem.ld M x9 60)) fun x_61 =>
    (Option.bind (intOf? .u64 (AMem.ld M x9 61)) fun x_62 =>
    (Option.bind (intOf? .u64 (AMem.ld M x9 62)) fun x_63 =>
    (Option.bind (intOf? .u64 (AMem.ld M x9 63)) fun x_64 =>
    (Option.bind (intOf? .u64 (AMem.ld M x10 0)) fun x_65 =>
    (Option.bind (intOf? .u64 (AMem.ld M x10 1)) fun x_66 =>
    (Option.bind (intOf? .u64 (AMem.ld M x10 2)) fun x_67 =>
    (Option.bind (intOf? .u64 (AMem.ld M x10 3)) fun x_68 =>
    (Option.bind (intOf? .u64 (AMem.ld M x10 4)) fun x_69 =>
    (Option.bind (intOf? .u64 (AMem.ld M x10 5)) fun x_70 =>
    (Option.bind (intOf? .u64 (AMem.ld M x10 6)) fun x_71 =>
    (Option.bind (intOf? .u64 (AMem.ld M x10 7)) fun x_72 =>
    (Option.bind (intOf? .u64 (AMem.ld M x10 8)) fun x_73 =>
    (Option.bind (intOf? .u64 (AMem.ld M x10 9)) fun x_74 =>
    (Option.bind (intOf? .u64 (AMem.ld M x10 10)) fun x_75 =>
    (Option.bind (intOf? .u64 (AMem.ld M x10 11)) fun x_76 =>
    (Option.bind (intOf? .u64 (AMem.ld M x10 12)) fun x_77 =>
    (Option.bind (intOf? .u64 (AMem.ld M x10 13)) fun x_78 =>
    (Option.bind (intOf? .u64 (AMem.ld M x10 14)) fun x_79 =>
    (Option.bind (intOf? .u64 (AMem.ld M x10 15)) fun x_80 =>
    (Option.bind (intOf? .u64 (AMem.ld M x10 16)) fun x_81 =>
    (Option.bind (intOf? .u64 (AMem.ld M x10 17)) fun x_82 =>
    (Option.bind (intOf? .u64 (AMem.ld M x10 18)) fun x_83 =>
    (Option.bind (intOf? .u64 (AMem.ld M x10 19)) fun x_84 =>
    (Option.bind (intOf? .u64 (AMem.ld M x10 20)) fun x_85 =>
    (Option.bind (intOf? .u64 (AMem.ld M x10 21)) fun x_86 =>
    (Option.bind (intOf? .u64 (AMem.ld M x10 22)) fun x_87 =>
    (Option.bind (intOf? .u64 (AMem.ld M x10 23)) fun x_88 =>
    (Option.bind (intOf? .u64 (AMem.ld M x10 24)) fun x_89 =>
    (Option.bind (intOf? .u64 (AMem.ld M x10 25)) fun x_90 =>
    (Option.bind (intOf? .u64 (AMem.ld M x10 26)) fun x_91 =>
    (Option.bind (intOf? .u64 (AMem.ld M x10 27)) fun x_92 =>
    (Option.bind (intOf? .u64 (AMem.ld M x10 28)) fun x_93 =>
    (Option.bind (intOf? .u64 (AMem.ld M x10 29)) fun x_94 =>
    (Option.bind (intOf? .u64 (AMem.ld M x10 30)) fun x_95 =>
    (Option.bind (intOf? .u64 (AMem.ld M x10 31)) fun x_96 =>
    (Option.bind (intOf? .u64 (AMem.ld M x10 32)) fun x_97 =>
    (Option.bind (intOf? .u64 (AMem.ld M x10 33)) fun x_98 =>
    (Option.bind (intOf? .u64 (AMem.ld M x10 34)) fun x_99 =>
    (Option.bind (intOf? .u64 (AMem.ld M x10 35)) fun x_100 =>
    (Option.bind (intOf? .u64 (AMem.ld M x10 36)) fun x_101 =>
    (Option.bind (intOf? .u64 (AMem.ld M x10 37)) fun x_102 =>
    (Option.bind (intOf? .u64 (AMem.ld M x10 38)) fun x_103 =>
    (Option.bind (intOf? .u64 (AMem.ld M x10 39)) fun x_104 =>
    (Option.bind (intOf? .u64 (AMem.ld M x10 40)) fun x_105 =>
    (Option.bind (intOf? .u64 (AMem.ld M x10 41)) fun x_106 =>
    (Option.bind (intOf? .u64 (AMem.ld M x10 42)) fun x_107 =>
    (Option.bind (intOf? .u64 (AMem.ld M x10 43)) fun x_108 =>
    (Option.bind (intOf? .u64 (AMem.ld M x10 44)) fun x_109 =>
    (Option.bind (intOf? .u64 (AMem.ld M x10 45)) fun x_110 =>
    (Option.bind (intOf? .u64 (AMem.ld M x10 46)) fun x_111 =>
    (Option.bind (intOf? .u64 (AMem.ld M x10 47)) fun x_112 =>
    (Option.bind (intOf? .u64 (AMem.ld M x10 48)) fun x_113 =>
    (Option.bind (intOf? .u64 (AMem.ld M x10 49)) fun x_114 =>
    (Option.bind (intOf? .u64 (AMem.ld M x10 50)) fun x_115 =>
    (Option.bind (intOf? .u64 (AMem.ld M x10 51)) fun x_116 =>
    (Option.bind (intOf? .u64 (AMem.ld M x10 52)) fun x_117 =>
    (Option.bind (intOf? .u64 (AMem.ld M x10 53)) fun x_118 =>
    (Option.bind (intOf? .u64 (AMem.ld M x10 54)) fun x_119 =>
    (Option.bind (intOf? .u64 (AMem.ld M x10 55)) fun x_120 =>
    (Option.bind (intOf? .u64 (AMem.ld M x10 56)) fun x_121 =>
    (Option.bind (intOf? .u64 (AMem.ld M x10 57)) fun x_122 =>
    (Option.bind (intOf? .u64 (AMem.ld M x10 58)) fun x_123 =>
    (Option.bind (intOf? .u64 (AMem.ld M x10 59)) fun x_124 =>
    (Option.bind (intOf? .u64 (AMem.ld M x10 60)) fun x_125 =>
    (Option.bind (intOf? .u64 (AMem.ld M x10 61)) fun x_126 =>
    (Option.bind (intOf? .u64 (AMem.ld M x10 62)) fun x_127 =>
    (Option.bind (intOf? .u64 (AMem.ld M x10 63)) fun x_128 =>
    (if ((x_1 == x_65) && ((x_2 == x_66) && ((x_3 == x_67) && ((x_4 == x_68) && ((x_5 == x_69) && ((x_6 == x_70) && ((x_7 == x_71) && ((x_8 == x_72) && ((x_9 == x_73) && ((x_10 == x_74) && ((x_11 == x_75) && ((x_12 == x_76) && ((x_13 == x_77) && ((x_14 == x_78) && ((x_15 == x_79) && ((x_16 == x_80) && ((x_17 == x_81) && ((x_18 == x_82) && ((x_19 == x_83) && ((x_20 == x_84) && ((x_21 == x_85) && ((x_22 == x_86) && ((x_23 == x_87) && ((x_24 == x_88) && ((x_25 == x_89) && ((x_26 == x_90) && ((x_27 == x_91) && ((x_28 == x_92) && ((x_29 == x_93) && ((x_30 == x_94) && ((x_31 == x_95) && ((x_32 == x_96) && ((x_33 == x_97) && ((x_34 == x_98) && ((x_35 == x_99) && ((x_36 == x_100) && ((x_37 == x_101) && ((x_38 == x_102) && ((x_39 == x_103) && ((x_40 == x_104) && ((x_41 == x_105) && ((x_42 == x_106) && ((x_43 == x_107) && ((x_44 == x_108) && ((x_45 == x_109) && ((x_46 == x_110) && ((x_47 == x_111) && ((x_48 == x_112) && ((x_49 == x_113) && ((x_50 == x_114) && ((x_51 == x_115) && ((x_52 == x_116) && ((x_53 == x_117) && ((x_54 == x_118) && ((x_55 == x_119) && ((x_56 == x_120) && ((x_57 == x_121) && ((x_58 == x_122) && ((x_59 == x_123) && ((x_60 == x_124) && ((x_61 == x_125) && ((x_62 == x_126) && ((x_63 == x_127) && (x_64 == x_128)))))))))))))))))))))))))))))))))))))))))))))))))))))))))))))))) = true
    then (Option.bind (L.call 9 [.pointer x8] M) fun r_129 =>
      (Option.bind (intOf? .i64 (some r_129.1)) fun x_130 =>
      (if (x_130 == 0) = true
      then (if (decide (x16 ≤ x7)) = true
        then (Option.bind (L.call 5 [] []) fun r_131 =>
          (Option.bind (boolOf? (some r_131.1)) fun q_132 =>
          some (.bool q_132, r_129.2)))
        else some (.bool false, r_129.2))
      else some (.bool false, r_129.2))))
    else some (.bool false, M)))))))))))))))))))))))))))))))))))))))))))))))))))))))))))))))))))))))))))))))))))))))))))))))))))))))))))))))))))))))))))))))))) := QP3_136_eq L P3_136 (Classical.choose_spec XP3_136) x7 x8 x9 x10 x16 M
theorem QP3_116_eq (L : Rec) (b3_100 b3_116 c3_134 c3_135 c3_136 : ACode) (hb : ∀ K t A, L.loop b3_116 K t A = code L (.post (.seq (.seq (.ops o3_119) (.cond (.tmp 184) (.skip) (.exit 6))) (.seq (.block 7 (.seq (.seq (.draw [] 0 o3_127 []) (.cond (.tmp 202) (.seq (.ops o3_130) (.ret)) (.skip))) (.draw [] 0 o3_133 []))) (.clear zl5 c3_134))) zl5) (loopK L b3_116 K) t A) (P3_116 : Rec → Nat → Int → (Option Addr) → Nat → Nat → (Option Addr) → Nat → Nat → Int → Int → (Option Addr) → Nat → Nat → Int → AMem → Res) (hP3_116 : Eq P3_116 fun L x3 x7 x8 x9 x10 x15 x15n x15c x16 x17 x18 x18n x18c x19 M => L.loop b3_116 (blockK 6 (blockK 5 (seqK (code L (.clear zl7 c3_135) (postK zl7 (loopK L b3_100 (blockK 4 (seqK (code L (.clear zl8 c3_136) (retK [.tmp 6])) (retK [.tmp 6])))))) (postK zl7 (loopK L b3_100 (blockK 4 (seqK (code L (.clear zl8 c3_136) (retK [.tmp 6])) (retK [.tmp 6])))))))) (s3_116 x3 x7 x8 x9 x10 x15 x15n x15c x16 x17 x18 x18n x18c x19 M) M) (P3_134 : Rec → Nat → Int → (Option Addr) → Nat → Nat → (Option Addr) → Nat → Nat → Int → Int → (Option Addr) → Nat → Nat → Int → AMem → Res) (hP3_134 : Eq P3_134 fun L x3 x7 x8 x9 x10 x15 x15n x15c x16 x17 x18 x18n x18c x19 M => code L c3_134 (postK zl5 (loopK L b3_116 (blockK 6 (blockK 5 (seqK (code L (.clear zl7 c3_135) (postK zl7 (loopK L b3_100 (blockK 4 (seqK (code L (.clear zl8 c3_136) (retK [.tmp 6])) (retK [.tmp 6])))))) (postK zl7 (loopK L b3_100 (blockK 4 (seqK (code L (.clear zl8 c3_136) (retK [.tmp 6])) (retK [.tmp 6])))))))))) (s3_134 x3 x7 x8 x9 x10 x15 x15n x15c x16 x17 x18 x18n x18c x19 M) M) (P3_135 : Rec → Nat → Int → (Option Addr) → Nat → Nat → (Option Addr) → Nat → Nat → Int → Int → AMem → Res) (hP3_135 : Eq P3_135 fun L x3 x7 x8 x9 x10 x15 x15n x15c x16 x17 M => code L c3_135 (postK zl7 (loopK L b3_100 (blockK 4 (seqK (code L (.clear zl8 c3_136) (retK [.tmp 6])) (retK [.tmp 6]))))) (s3_135 x3 x7 x8 x9 x10 x15 x15n x15c x16 x17 M) M) (x3 : Nat) (x7 : Int) (x8 : Option Addr) (x9 : Nat) (x10 : Nat) (x15 : Option Addr) (x15n : Nat) (x15c : Nat) (x16 : Int) (x17 : Int) (x18 : Option Addr) (x18n : Nat) (x18c : Nat) (x19 : Int) (M : AMem) : P3_116 L x3 x7 x8 x9 x10 x15 x15n x15c x16 x17 x18 x18n x18c x19 M =
  (if (decide (x19 < (Int.ofNat x18n))) = true
    then (match x18 with
      | some a_1 => (if (0 : Int) ≤ x19 ∧ x19 < (Int.ofNat x18n)
        then (Option.bind (intOf? .i64 (AMem.ld M a_1.block (a_1.off + ((Int.toNat x19) * 4)))) fun x_2 =>
          (if (decide (x_2 < 0)) = true
          then some (.bool false, M)
          else (match x18 with
            | some a_3 => (if (0 : Int) ≤ x19 ∧ x19 < (Int.ofNat x18n)
              then (Option.bind (intOf? .i64 (AMem.ld M a_3.block (a_3.off + ((Int.toNat x19) * 4)))) fun x_4 =>
                (Option.bind (intOf? .i64 (AMem.ld M x3 0)) fun x_5 =>
                (if (decide (x_4 ≥ x_5)) = true
                then some (.bool false, M)
                else (match x18 with
                  | some a_6 => (if (0 : Int) ≤ x19 ∧ x19 < (Int.ofNat x18n)
                    then (Option.bind (intOf? .i64 (AMem.ld M a_6.block (a_6.off + ((Int.toNat x19) * 4)))) fun x_7 =>
                      (match x18 with
                      | some a_8 => (if (0 : Int) ≤ x19 ∧ x19 < (Int.ofNat x18n)
                        then (Option.bind (intOf? .i64 (AMem.ld M a_8.block (a_8.off + ((Int.toNat x19) * 4)))) fun x_9 =>
                          (if (0 : Int) ≤ x_9 ∧ x_9 < 64
                          then (Option.bind (intOf? .u64 (AMem.ld M x10 (0 + ((Int.toNat x_9) * 1)))) fun x_10 =>
                            (match x18 with
                            | some a_11 => (if (0 : Int) ≤ x19 ∧ x19 < (Int.ofNat x18n)
                              then (Option.bind (intOf? .u64 (AMem.ld M a_11.block (((a_11.off + ((Int.toNat x19) * 4)) + 1) + 1))) fun x_12 =>
                                (if (0 : Int) ≤ x_7 ∧ x_7 < 64
                                then (Option.bind (AMem.wr M x10 (0 + ((Int.toNat x_7) * 1)) [.int .u64 (IntKind.wrap .u64 (x_10 + x_12))]) fun M_13 =>
                                  P3_134 L x3 x7 x8 x9 x10 x15 x15n x15c x16 x17 x18 x18n x18c x19 M_13)
                                else none))
                              else none)
                            | none => none))
                          else none))
                        else none)
                      | none => none))
                    else none)
                  | none => none))))
              else none)
            | none => none)))
        else none)
      | none => none)
    else P3_135 L x3 x7 x8 x9 x10 x15 x15n x15c x16 x17 M) := by
  subst hP3_116; subst hP3_134; subst hP3_135; exact (hb (blockK 6 (blockK 5 (seqK (code L (.clear zl7 c3_135) (postK zl7 (loopK L b3_100 (blockK 4 (seqK (code L (.clear zl8 c3_136) (retK [.tmp 6])) (retK [.tmp 6])))))) (postK zl7 (loopK L b3_100 (blockK 4 (seqK (code L (.clear zl8 c3_136) (retK [.tmp 6])) (retK [.tmp 6])))))))) (s3_116 x3 x7 x8 x9 x10 x15 x15n x15c x16 x17 x18 x18n x18c x19 M) M).trans (by kernel_rfl)
theorem P3_116_eq (L : Rec) (hL : ∀ b K t A, L.loop b K t A = code L b (loopK L b K) t A) (x3 : Nat) (x7 : Int) (x8 : Option Addr) (x9 : Nat) (x10 : Nat) (x15 : Option Addr) (x15n : Nat) (x15c : Nat) (x16 : Int) (x17 : Int) (x18 : Option Addr) (x18n : Nat) (x18c : Nat) (x19 : Int) (M : AMem) : P3_116 L x3 x7 x8 x9 x10 x15 x15n x15c x16 x17 x18 x18n x18c x19 M =
  (if (decide (x19 < (Int.ofNat x18n))) = true
    then (match x18 with
      | some a_1 => (if (0 : Int) ≤ x19 ∧ x19 < (Int.ofNat x18n)
        then (Option.bind (intOf? .i64 (AMem.ld M a_1.block (a_1.off + ((Int.toNat x19) * 4)))) fun x_2 =>
          (if (decide (x_2 < 0)) = true
          then some (.bool false, M)
          else (match x18 with
            | some a_3 => (if (0 : Int) ≤ x19 ∧ x19 < (Int.ofNat x18n)
              then (Option.bind (intOf? .i64 (AMem.ld M a_3.block (a_3.off + ((Int.toNat x19) * 4)))) fun x_4 =>
                (Option.bind (intOf? .i64 (AMem.ld M x3 0)) fun x_5 =>
                (if (decide (x_4 ≥ x_5)) = true
                then some (.bool false, M)
                else (match x18 with
                  | some a_6 => (if (0 : Int) ≤ x19 ∧ x19 < (Int.ofNat x18n)
                    then (Option.bind (intOf? .i64 (AMem.ld M a_6.block (a_6.off + ((Int.toNat x19) * 4)))) fun x_7 =>
                      (match x18 with
                      | some a_8 => (if (0 : Int) ≤ x19 ∧ x19 < (Int.ofNat x18n)
                        then (Option.bind (intOf? .i64 (AMem.ld M a_8.block (a_8.off + ((Int.toNat x19) * 4)))) fun x_9 =>
                          (if (0 : Int) ≤ x_9 ∧ x_9 < 64
                          then (Option.bind (intOf? .u64 (AMem.ld M x10 (0 + ((Int.toNat x_9) * 1)))) fun x_10 =>
                            (match x18 with
                            | some a_11 => (if (0 : Int) ≤ x19 ∧ x19 < (Int.ofNat x18n)
                              then (Option.bind (intOf? .u64 (AMem.ld M a_11.block (((a_11.off + ((Int.toNat x19) * 4)) + 1) + 1))) fun x_12 =>
                                (if (0 : Int) ≤ x_7 ∧ x_7 < 64
                                then (Option.bind (AMem.wr M x10 (0 + ((Int.toNat x_7) * 1)) [.int .u64 (IntKind.wrap .u64 (x_10 + x_12))]) fun M_13 =>
                                  P3_134 L x3 x7 x8 x9 x10 x15 x15n x15c x16 x17 x18 x18n x18c x19 M_13)
                                else none))
                              else none)
                            | none => none))
                          else none))
                        else none)
                      | none => none))
                    else none)
                  | none => none))))
              else none)
            | none => none)))
        else none)
      | none => none)
    else P3_135 L x3 x7 x8 x9 x10 x15 x15n x15c x16 x17 M) := QP3_116_eq L b3_100 b3_116 c3_134 c3_135 c3_136 (hL b3_116) P3_116 (Classical.choose_spec XP3_116) P3_134 (Classical.choose_spec XP3_134) P3_135 (Classical.choose_spec XP3_135) x3 x7 x8 x9 x10 x15 x15n x15c x16 x17 x18 x18n x18c x19 M
theorem QP3_134_eq (L : Rec) (b3_100 b3_116 c3_135 c3_136 : ACode) (P3_116 : Rec → Nat → Int → (Option Addr) → Nat → Nat → (Option Addr) → Nat → Nat → Int → Int → (Option Addr) → Nat → Nat → Int → AMem → Res) (hP3_116 : Eq P3_116 fun L x3 x7 x8 x9 x10 x15 x15n x15c x16 x17 x18 x18n x18c x19 M => L.loop b3_116 (blockK 6 (blockK 5 (seqK (code L (.clear zl7 c3_135) (postK zl7 (loopK L b3_100 (blockK 4 (seqK (code L (.clear zl8 c3_136) (retK [.tmp 6])) (retK [.tmp 6])))))) (postK zl7 (loopK L b3_100 (blockK 4 (seqK (code L (.clear zl8 c3_136) (retK [.tmp 6])) (retK [.tmp 6])))))))) (s3_116 x3 x7 x8 x9 x10 x15 x15n x15c x16 x17 x18 x18n x18c x19 M) M) (P3_134 : Rec → Nat → Int → (Option Addr) → Nat → Nat → (Option Addr) → Nat → Nat → Int → Int → (Option Addr) → Nat → Nat → Int → AMem → Res) (hP3_134 : Eq P3_134 fun L x3 x7 x8 x9 x10 x15 x15n x15c x16 x17 x18 x18n x18c x19 M => code L (.ops o3_134) (postK zl5 (loopK L b3_116 (blockK 6 (blockK 5 (seqK (code L (.clear zl7 c3_135) (postK zl7 (loopK L b3_100 (blockK 4 (seqK (code L (.clear zl8 c3_136) (retK [.tmp 6])) (retK [.tmp 6])))))) (postK zl7 (loopK L b3_100 (blockK 4 (seqK (code L (.clear zl8 c3_136) (retK [.tmp 6])) (retK [.tmp 6])))))))))) (s3_134 x3 x7 x8 x9 x10 x15 x15n x15c x16 x17 x18 x18n x18c x19 M) M) (x3 : Nat) (x7 : Int) (x8 : Option Addr) (x9 : Nat) (x10 : Nat) (x15 : Option Addr) (x15n : Nat) (x15c : Nat) (x16 : Int) (x17 : Int) (x18 : Option Addr) (x18n : Nat) (x18c : Nat) (x19 : Int) (M : AMem) : P3_134 L x3 x7 x8 x9 x10 x15 x15n x15c x16 x17 x18 x18n x18c x19 M =
  P3_116 L x3 x7 x8 x9 x10 x15 x15n x15c x16 x17 x18 x18n x18c (IntKind.wrap .i64 (x19 + 1)) M := by
  subst hP3_116; subst hP3_134; kernel_rfl
theorem P3_134_eq (L : Rec) (x3 : Nat) (x7 : Int) (x8 : Option Addr) (x9 : Nat) (x10 : Nat) (x15 : Option Addr) (x15n : Nat) (x15c : Nat) (x16 : Int) (x17 : Int) (x18 : Option Addr) (x18n : Nat) (x18c : Nat) (x19 : Int) (M : AMem) : P3_134 L x3 x7 x8 x9 x10 x15 x15n x15c x16 x17 x18 x18n x18c x19 M =
  P3_116 L x3 x7 x8 x9 x10 x15 x15n x15c x16 x17 x18 x18n x18c (IntKind.wrap .i64 (x19 + 1)) M := QP3_134_eq L b3_100 b3_116 c3_135 c3_136 P3_116 (Classical.choose_spec XP3_116) P3_134 (Classical.choose_spec XP3_134) x3 x7 x8 x9 x10 x15 x15n x15c x16 x17 x18 x18n x18c x19 M
theorem QP3_135_eq (L : Rec) (b3_100 c3_136 : ACode) (P3_100 : Rec → Nat → Int → (Option Addr) → Nat → Nat → (Option Addr) → Nat → Nat → Int → Int → AMem → Res) (hP3_100 : Eq P3_100 fun L x3 x7 x8 x9 x10 x15 x15n x15c x16 x17 M => L.loop b3_100 (blockK 4 (seqK (code L (.clear zl8 c3_136) (retK [.tmp 6])) (retK [.tmp 6]))) (s3_100 x3 x7 x8 x9 x10 x15 x15n x15c x16 x17 M) M) (P3_135 : Rec → Nat → Int → (Option Addr) → Nat → Nat → (Option Addr) → Nat → Nat → Int → Int → AMem → Res) (hP3_135 : Eq P3_135 fun L x3 x7 x8 x9 x10 x15 x15n x15c x16 x17 M => code L (.ops o3_135) (postK zl7 (loopK L b3_100 (blockK 4 (seqK (code L (.clear zl8 c3_136) (retK [.tmp 6])) (retK [.tmp 6]))))) (s3_135 x3 x7 x8 x9 x10 x15 x15n x15c x16 x17 M) M) (x3 : Nat) (x7 : Int) (x8 : Option Addr) (x9 : Nat) (x10 : Nat) (x15 : Option Addr) (x15n : Nat) (x15c : Nat) (x16 : Int) (x17 : Int) (M : AMem) : P3_135 L x3 x7 x8 x9 x10 x15 x15n x15c x16 x17 M =
  P3_100 L x3 x7 x8 x9 x10 x15 x15n x15c x16 (IntKind.wrap .i64 (x17 + 1)) M := by
  subst hP3_100; subst hP3_135; kernel_rfl
theorem P3_135_eq (L : Rec) (x3 : Nat) (x7 : Int) (x8 : Option Addr) (x9 : Nat) (x10 : Nat) (x15 : Option Addr) (x15n : Nat) (x15c : Nat) (x16 : Int) (x17 : Int) (M : AMem) : P3_135 L x3 x7 x8 x9 x10 x15 x15n x15c x16 x17 M =
  P3_100 L x3 x7 x8 x9 x10 x15 x15n x15c x16 (IntKind.wrap .i64 (x17 + 1)) M := QP3_135_eq L b3_100 c3_136 P3_100 (Classical.choose_spec XP3_100) P3_135 (Classical.choose_spec XP3_135) x3 x7 x8 x9 x10 x15 x15n x15c x16 x17 M
theorem QE3 (L : Rec) (c3_12 : ACode) (P3_12 : Rec → (Option Addr) → Nat → Nat → Nat → Int → AMem → Res) (hP3_12 : Eq P3_12 fun L x2 x2n x2c x3 x7 M => code L c3_12 (retK [.tmp 6]) (s3_12 x2 x2n x2c x3 x7 M) M) (x0_0 : Int) (x0_1 : Int) (x1 : Int) (x2 : Option Addr) (x2n : Nat) (x2c : Nat) (M : AMem) : enterF L ⟨239, [.tmp 6], .seq (.ops o3_1) (.seq (.seq (.ops o3_4) (.cond (.tmp 37) (.seq (.ops o3_7) (.ret)) (.skip))) (.seq (.ops o3_11) (.clear zl10 c3_12)))⟩ [.agg #[.int .i64 x0_0, .int .i64 x0_1], .int .u8 x1, .slice x2 x2n x2c] M =
  (Option.bind (intOf? .i64 (AMem.ld (M ++ [AObj.cells [.int .i64 x0_0, .int .i64 x0_1] ⟨false, 0⟩]) (List.length M) 0)) fun x_1 =>
    (Option.bind (intOf? .i64 (AMem.ld (M ++ [AObj.cells [.int .i64 x0_0, .int .i64 x0_1] ⟨false, 0⟩]) (List.length M) 1)) fun x_2 =>
    (Option.bind (L.call 4 [.agg #[.int .i64 x_1, .int .i64 x_2]] []) fun r_3 =>
    (Option.bind (boolOf? (some r_3.1)) fun q_4 =>
    (if (!q_4) = true
    then (Option.bind (L.call 5 [] []) fun r_5 =>
      (Option.bind (boolOf? (some r_5.1)) fun q_6 =>
      some (.bool q_6, (M ++ [AObj.cells [.int .i64 x0_0, .int .i64 x0_1] ⟨false, 0⟩]))))
    else (Option.bind (intOf? .i64 (AMem.ld (M ++ [AObj.cells [.int .i64 x0_0, .int .i64 x0_1] ⟨false, 0⟩]) (List.length M) 1)) fun x_7 =>
      (if (decide (x_7 > 16)) = true
      then (Option.bind (L.call 5 [] []) fun r_8 =>
        (Option.bind (boolOf? (some r_8.1)) fun q_9 =>
        some (.bool q_9, (M ++ [AObj.cells [.int .i64 x0_0, .int .i64 x0_1] ⟨false, 0⟩]))))
      else (Option.bind (intOf? .i64 (AMem.ld (M ++ [AObj.cells [.int .i64 x0_0, .int .i64 x0_1] ⟨false, 0⟩]) (List.length M) 0)) fun x_10 =>
        (if (decide (x_10 > 64)) = true
        then (Option.bind (L.call 5 [] []) fun r_11 =>
          (Option.bind (boolOf? (some r_11.1)) fun q_12 =>
          some (.bool q_12, (M ++ [AObj.cells [.int .i64 x0_0, .int .i64 x0_1] ⟨false, 0⟩]))))
        else (if (decide ((Int.ofNat x2n) > 40)) = true
          then (Option.bind (L.call 5 [] []) fun r_13 =>
            (Option.bind (boolOf? (some r_13.1)) fun q_14 =>
            some (.bool q_14, (M ++ [AObj.cells [.int .i64 x0_0, .int .i64 x0_1] ⟨false, 0⟩]))))
          else P3_12 L x2 x2n x2c (List.length M) (IntKind.wrap .i64 (1 + (Int.tmod (IntKind.wrap .i64 x1) 20))) (M ++ [AObj.cells [.int .i64 x0_0, .int .i64 x0_1] ⟨false, 0⟩]))))))))))) := by
  subst hP3_12; kernel_rfl
theorem E3 (L : Rec) (x0_0 : Int) (x0_1 : Int) (x1 : Int) (x2 : Option Addr) (x2n : Nat) (x2c : Nat) (M : AMem) : enterF L a3 [.agg #[.int .i64 x0_0, .int .i64 x0_1], .int .u8 x1, .slice x2 x2n x2c] M =
  (Option.bind (intOf? .i64 (AMem.ld (M ++ [AObj.cells [.int .i64 x0_0, .int .i64 x0_1] ⟨false, 0⟩]) (List.length M) 0)) fun x_1 =>
    (Option.bind (intOf? .i64 (AMem.ld (M ++ [AObj.cells [.int .i64 x0_0, .int .i64 x0_1] ⟨false, 0⟩]) (List.length M) 1)) fun x_2 =>
    (Option.bind (L.call 4 [.agg #[.int .i64 x_1, .int .i64 x_2]] []) fun r_3 =>
    (Option.bind (boolOf? (some r_3.1)) fun q_4 =>
    (if (!q_4) = true
    then (Option.bind (L.call 5 [] []) fun r_5 =>
      (Option.bind (boolOf? (some r_5.1)) fun q_6 =>
      some (.bool q_6, (M ++ [AObj.cells [.int .i64 x0_0, .int .i64 x0_1] ⟨false, 0⟩]))))
    else (Option.bind (intOf? .i64 (AMem.ld (M ++ [AObj.cells [.int .i64 x0_0, .int .i64 x0_1] ⟨false, 0⟩]) (List.length M) 1)) fun x_7 =>
      (if (decide (x_7 > 16)) = true
      then (Option.bind (L.call 5 [] []) fun r_8 =>
        (Option.bind (boolOf? (some r_8.1)) fun q_9 =>
        some (.bool q_9, (M ++ [AObj.cells [.int .i64 x0_0, .int .i64 x0_1] ⟨false, 0⟩]))))
      else (Option.bind (intOf? .i64 (AMem.ld (M ++ [AObj.cells [.int .i64 x0_0, .int .i64 x0_1] ⟨false, 0⟩]) (List.length M) 0)) fun x_10 =>
        (if (decide (x_10 > 64)) = true
        then (Option.bind (L.call 5 [] []) fun r_11 =>
          (Option.bind (boolOf? (some r_11.1)) fun q_12 =>
          some (.bool q_12, (M ++ [AObj.cells [.int .i64 x0_0, .int .i64 x0_1] ⟨false, 0⟩]))))
        else (if (decide ((Int.ofNat x2n) > 40)) = true
          then (Option.bind (L.call 5 [] []) fun r_13 =>
            (Option.bind (boolOf? (some r_13.1)) fun q_14 =>
            some (.bool q_14, (M ++ [AObj.cells [.int .i64 x0_0, .int .i64 x0_1] ⟨false, 0⟩]))))
          else P3_12 L x2 x2n x2c (List.length M) (IntKind.wrap .i64 (1 + (Int.tmod (IntKind.wrap .i64 x1) 20))) (M ++ [AObj.cells [.int .i64 x0_0, .int .i64 x0_1] ⟨false, 0⟩]))))))))))) := QE3 L c3_12 P3_12 (Classical.choose_spec XP3_12) x0_0 x0_1 x1 x2 x2n x2c M
end Go.Proofs.Ytjcmnchkgnmooaa
