/- What the pieces of some functions come to. -/
import Derived.Test.YtncfdkmhpnopiaaCode
set_option linter.unusedVariables false
set_option maxRecDepth 100000
namespace Go.Proofs.Ytncfdkmhpnopiaa
open Go Go.Ax
/-! #### skylightlaw51.MipBetween -/
noncomputable def k3_16 (L : Rec) : KT := blockK 0 (seqK (code L (.clear zl10 c3_65) (retK [.tmp 4])) (retK [.tmp 4]))
def s3_16 (x1 : Int) (x2 : Nat) (x5 : Nat) (x6 : Int) (M : AMem) : List Value := [junk, .int .u8 x1, .pointer (some ⟨x2, 0, none⟩), junk, junk, .pointer (some ⟨x5, 0, none⟩), .int .i64 x6, junk, junk, junk, junk, junk, junk, junk, junk, junk, junk, junk, junk, junk, junk, junk, junk, junk, junk, junk, junk, junk, junk, junk, junk, junk, junk, junk, junk, junk, junk, junk, junk, junk, junk, junk, junk, junk, junk, junk, junk, junk, junk, junk, junk, junk, junk, junk, junk, junk, junk, junk, junk, junk, junk, junk, junk, junk, junk, junk, junk, junk, junk, junk, junk, junk, junk, junk, junk, junk, junk, junk, junk, junk, junk, junk, junk, junk, junk, junk, junk, junk, junk, junk, junk, junk, junk, junk, junk, junk, junk, junk, junk, junk, junk, junk, junk, junk, junk, junk, junk, junk, junk, junk, junk, junk, junk, junk, junk, junk, junk, junk, junk, junk, junk, junk, junk, junk, junk, junk, junk, junk, junk, junk, junk, junk, junk, junk, junk, junk, junk, junk, junk, junk, junk, junk, junk, junk, junk, junk, junk, junk, junk, junk, junk, junk, junk, junk, junk, junk, junk, junk, junk, junk, junk, junk, junk, junk, junk, junk, junk, junk, junk, junk, junk, junk, junk, junk, junk, junk, junk, junk, junk, junk, junk, junk, junk, junk, junk, junk, junk, junk, junk, junk, junk, junk, junk, junk, junk, junk, junk, junk, junk, junk, junk, junk, junk, junk, junk, junk, junk, junk, junk]
theorem XP3_16 : ∃ P : Rec → Int → Nat → Nat → Int → AMem → Res, P = fun (L : Rec) (x1 : Int) (x2 : Nat) (x5 : Nat) (x6 : Int) (M : AMem) => L.loop b3_16 (k3_16 L) (s3_16 x1 x2 x5 x6 M) M := ⟨_, rfl⟩
noncomputable def P3_16 : Rec → Int → Nat → Nat → Int → AMem → Res := Classical.choose XP3_16
noncomputable def k3_31 (L : Rec) : KT := blockK 2 (seqK (code L (.clear zl3 c3_44) (blockK 1 (seqK (code L (.clear zl4 c3_64) (postK zl4 (loopK L b3_16 (blockK 0 (seqK (code L (.clear zl10 c3_65) (retK [.tmp 4])) (retK [.tmp 4])))))) (postK zl4 (loopK L b3_16 (blockK 0 (seqK (code L (.clear zl10 c3_65) (retK [.tmp 4])) (retK [.tmp 4])))))))) (blockK 1 (seqK (code L (.clear zl4 c3_64) (postK zl4 (loopK L b3_16 (blockK 0 (seqK (code L (.clear zl10 c3_65) (retK [.tmp 4])) (retK [.tmp 4])))))) (postK zl4 (loopK L b3_16 (blockK 0 (seqK (code L (.clear zl10 c3_65) (retK [.tmp 4])) (retK [.tmp 4]))))))))
def s3_31 (x1 : Int) (x2 : Nat) (x5 : Nat) (x6 : Int) (x7 : Int) (x8 : Int) (x9 : Int) (M : AMem) : List Value := [junk, .int .u8 x1, .pointer (some ⟨x2, 0, none⟩), junk, junk, .pointer (some ⟨x5, 0, none⟩), .int .i64 x6, .int .i64 x7, .int .i64 x8, .int .i64 x9, junk, junk, junk, junk, junk, junk, junk, junk, junk, junk, junk, junk, junk, junk, junk, junk, junk, junk, junk, junk, junk, junk, junk, junk, junk, junk, junk, junk, junk, junk, junk, junk, junk, junk, junk, junk, junk, junk, junk, junk, junk, junk, junk, junk, junk, junk, junk, junk, junk, junk, junk, junk, junk, junk, junk, junk, junk, junk, junk, junk, junk, junk, junk, junk, junk, junk, junk, junk, junk, junk, junk, junk, junk, junk, junk, junk, junk, junk, junk, junk, junk, junk, junk, junk, junk, junk, junk, junk, junk, junk, junk, junk, junk, junk, junk, junk, junk, junk, junk, junk, junk, junk, junk, junk, junk, junk, junk, junk, junk, junk, junk, junk, junk, junk, junk, junk, junk, junk, junk, junk, junk, junk, junk, junk, junk, junk, junk, junk, junk, junk, junk, junk, junk, junk, junk, junk, junk, junk, junk, junk, junk, junk, junk, junk, junk, junk, junk, junk, junk, junk, junk, junk, junk, junk, junk, junk, junk, junk, junk, junk, junk, junk, junk, junk, junk, junk, junk, junk, junk, junk, junk, junk, junk, junk, junk, junk, junk, junk, junk, junk, junk, junk, junk, junk, junk, junk, junk, junk, junk, junk, junk, junk, junk, junk, junk, junk, junk, junk, junk]
theorem XP3_31 : ∃ P : Rec → Int → Nat → Nat → Int → Int → Int → Int → AMem → Res, P = fun (L : Rec) (x1 : Int) (x2 : Nat) (x5 : Nat) (x6 : Int) (x7 : Int) (x8 : Int) (x9 : Int) (M : AMem) => L.loop b3_31 (k3_31 L) (s3_31 x1 x2 x5 x6 x7 x8 x9 M) M := ⟨_, rfl⟩
noncomputable def P3_31 : Rec → Int → Nat → Nat → Int → Int → Int → Int → AMem → Res := Classical.choose XP3_31
noncomputable def k3_65 (L : Rec) : KT := retK [.tmp 4]
def s3_65 (x1 : Int) (x2 : Nat) (M : AMem) : List Value := [junk, .int .u8 x1, .pointer (some ⟨x2, 0, none⟩), junk, junk, junk, junk, junk, junk, junk, junk, junk, junk, junk, junk, junk, junk, junk, junk, junk, junk, junk, junk, junk, junk, junk, junk, junk, junk, junk, junk, junk, junk, junk, junk, junk, junk, junk, junk, junk, junk, junk, junk, junk, junk, junk, junk, junk, junk, junk, junk, junk, junk, junk, junk, junk, junk, junk, junk, junk, junk, junk, junk, junk, junk, junk, junk, junk, junk, junk, junk, junk, junk, junk, junk, junk, junk, junk, junk, junk, junk, junk, junk, junk, junk, junk, junk, junk, junk, junk, junk, junk, junk, junk, junk, junk, junk, junk, junk, junk, junk, junk, junk, junk, junk, junk, junk, junk, junk, junk, junk, junk, junk, junk, junk, junk, junk, junk, junk, junk, junk, junk, junk, junk, junk, junk, junk, junk, junk, junk, junk, junk, junk, junk, junk, junk, junk, junk, junk, junk, junk, junk, junk, junk, junk, junk, junk, junk, junk, junk, junk, junk, junk, junk, junk, junk, junk, junk, junk, junk, junk, junk, junk, junk, junk, junk, junk, junk, junk, junk, junk, junk, junk, junk, junk, junk, junk, junk, junk, junk, junk, junk, junk, junk, junk, junk, junk, junk, junk, junk, junk, junk, junk, junk, junk, junk, junk, junk, junk, junk, junk, junk, junk, junk, junk, junk, junk, junk, junk]
theorem XP3_65 : ∃ P : Rec → Int → Nat → AMem → Res, P = fun (L : Rec) (x1 : Int) (x2 : Nat) (M : AMem) => code L c3_65 (k3_65 L) (s3_65 x1 x2 M) M := ⟨_, rfl⟩
noncomputable def P3_65 : Rec → Int → Nat → AMem → Res := Classical.choose XP3_65
noncomputable def k3_35 (L : Rec) : KT := seqK (code L (.seq (.block 3 (.seq (.ops o3_41) (.ops o3_42))) (.clear zl1 c3_43)) (postK zl1 (loopK L b3_31 (blockK 2 (seqK (code L (.clear zl3 c3_44) (blockK 1 (seqK (code L (.clear zl4 c3_64) (postK zl4 (loopK L b3_16 (blockK 0 (seqK (code L (.clear zl10 c3_65) (retK [.tmp 4])) (retK [.tmp 4])))))) (postK zl4 (loopK L b3_16 (blockK 0 (seqK (code L (.clear zl10 c3_65) (retK [.tmp 4])) (retK [.tmp 4])))))))) (blockK 1 (seqK (code L (.clear zl4 c3_64) (postK zl4 (loopK L b3_16 (blockK 0 (seqK (code L (.clear zl10 c3_65) (retK [.tmp 4])) (retK [.tmp 4])))))) (postK zl4 (loopK L b3_16 (blockK 0 (seqK (code L (.clear zl10 c3_65) (retK [.tmp 4])) (retK [.tmp 4])))))))))))) (postK zl1 (loopK L b3_31 (blockK 2 (seqK (code L (.clear zl3 c3_44) (blockK 1 (seqK (code L (.clear zl4 c3_64) (postK zl4 (loopK L b3_16 (blockK 0 (seqK (code L (.clear zl10 c3_65) (retK [.tmp 4])) (retK [.tmp 4])))))) (postK zl4 (loopK L b3_16 (blockK 0 (seqK (code L (.clear zl10 c3_65) (retK [.tmp 4])) (retK [.tmp 4])))))))) (blockK 1 (seqK (code L (.clear zl4 c3_64) (postK zl4 (loopK L b3_16 (blockK 0 (seqK (code L (.clear zl10 c3_65) (retK [.tmp 4])) (retK [.tmp 4])))))) (postK zl4 (loopK L b3_16 (blockK 0 (seqK (code L (.clear zl10 c3_65) (retK [.tmp 4])) (retK [.tmp 4])))))))))))
def s3_35 (x1 : Int) (x2 : Nat) (x5 : Nat) (x6 : Int) (x7 : Int) (x8 : Int) (x9 : Int) (x40 : Bool) (M : AMem) : List Value := [junk, .int .u8 x1, .pointer (some ⟨x2, 0, none⟩), junk, junk, .pointer (some ⟨x5, 0, none⟩), .int .i64 x6, .int .i64 x7, .int .i64 x8, .int .i64 x9, junk, junk, junk, junk, junk, junk, junk, junk, junk, junk, junk, junk, junk, junk, junk, junk, junk, junk, junk, junk, junk, junk, junk, junk, junk, junk, junk, junk, junk, junk, .bool x40, junk, junk, junk, junk, junk, junk, junk, junk, junk, junk, junk, junk, junk, junk, junk, junk, junk, junk, junk, junk, junk, junk, junk, junk, junk, junk, junk, junk, junk, junk, junk, junk, junk, junk, junk, junk, junk, junk, junk, junk, junk, junk, junk, junk, junk, junk, junk, junk, junk, junk, junk, junk, junk, junk, junk, junk, junk, junk, junk, junk, junk, junk, junk, junk, junk, junk, junk, junk, junk, junk, junk, junk, junk, junk, junk, junk, junk, junk, junk, junk, junk, junk, junk, junk, junk, junk, junk, junk, junk, junk, junk, junk, junk, junk, junk, junk, junk, junk, junk, junk, junk, junk, junk, junk, junk, junk, junk, junk, junk, junk, junk, junk, junk, junk, junk, junk, junk, junk, junk, junk, junk, junk, junk, junk, junk, junk, junk, junk, junk, junk, junk, junk, junk, junk, junk, junk, junk, junk, junk, junk, junk, junk, junk, junk, junk, junk, junk, junk, junk, junk, junk, junk, junk, junk, junk, junk, junk, junk, junk, junk, junk, junk, junk, junk, junk, junk, junk, junk]
theorem XP3_35 : ∃ P : Rec → Int → Nat → Nat → Int → Int → Int → Int → Bool → AMem → Res, P = fun (L : Rec) (x1 : Int) (x2 : Nat) (x5 : Nat) (x6 : Int) (x7 : Int) (x8 : Int) (x9 : Int) (x40 : Bool) (M : AMem) => code L c3_35 (k3_35 L) (s3_35 x1 x2 x5 x6 x7 x8 x9 x40 M) M := ⟨_, rfl⟩
noncomputable def P3_35 : Rec → Int → Nat → Nat → Int → Int → Int → Int → Bool → AMem → Res := Classical.choose XP3_35
noncomputable def k3_71 (L : Rec) : KT := retK [.tmp 4]
def s3_71 (x2 : Nat) (x11 : Int) (x12 : Nat) (x13 : Bool) (x14 : Nat) (x15 : Bool) (M : AMem) : List Value := [junk, junk, .pointer (some ⟨x2, 0, none⟩), junk, junk, junk, junk, junk, junk, junk, junk, .int .i64 x11, .pointer (some ⟨x12, 0, none⟩), .bool x13, .pointer (some ⟨x14, 0, none⟩), .bool x15, junk, junk, junk, junk, junk, junk, junk, junk, junk, junk, junk, junk, junk, junk, junk, junk, junk, junk, junk, junk, junk, junk, junk, junk, junk, junk, junk, junk, junk, junk, junk, junk, junk, junk, junk, junk, junk, junk, junk, junk, junk, junk, junk, junk, junk, junk, junk, junk, junk, junk, junk, junk, junk, junk, junk, junk, junk, junk, junk, junk, junk, junk, junk, junk, junk, junk, junk, junk, junk, junk, junk, junk, junk, junk, junk, junk, junk, junk, junk, junk, junk, junk, junk, junk, junk, junk, junk, junk, junk, junk, junk, junk, junk, junk, junk, junk, junk, junk, junk, junk, junk, junk, junk, junk, junk, junk, junk, junk, junk, junk, junk, junk, junk, junk, junk, junk, junk, junk, junk, junk, junk, junk, junk, junk, junk, junk, junk, junk, junk, junk, junk, junk, junk, junk, junk, junk, junk, junk, junk, junk, junk, junk, junk, junk, junk, junk, junk, junk, junk, junk, junk, junk, junk, junk, junk, junk, junk, junk, junk, junk, junk, junk, junk, junk, junk, junk, junk, junk, junk, junk, junk, junk, junk, junk, junk, junk, junk, junk, junk, junk, junk, junk, junk, junk, junk, junk, junk, junk, junk, junk, junk, junk, junk]
theorem XP3_71 : ∃ P : Rec → Nat → Int → Nat → Bool → Nat → Bool → AMem → Res, P = fun (L : Rec) (x2 : Nat) (x11 : Int) (x12 : Nat) (x13 : Bool) (x14 : Nat) (x15 : Bool) (M : AMem) => code L c3_71 (k3_71 L) (s3_71 x2 x11 x12 x13 x14 x15 M) M := ⟨_, rfl⟩
noncomputable def P3_71 : Rec → Nat → Int → Nat → Bool → Nat → Bool → AMem → Res := Classical.choose XP3_71
noncomputable def k3_43 (L : Rec) : KT := postK zl1 (loopK L b3_31 (blockK 2 (seqK (code L (.clear zl3 c3_44) (blockK 1 (seqK (code L (.clear zl4 c3_64) (postK zl4 (loopK L b3_16 (blockK 0 (seqK (code L (.clear zl10 c3_65) (retK [.tmp 4])) (retK [.tmp 4])))))) (postK zl4 (loopK L b3_16 (blockK 0 (seqK (code L (.clear zl10 c3_65) (retK [.tmp 4])) (retK [.tmp 4])))))))) (blockK 1 (seqK (code L (.clear zl4 c3_64) (postK zl4 (loopK L b3_16 (blockK 0 (seqK (code L (.clear zl10 c3_65) (retK [.tmp 4])) (retK [.tmp 4])))))) (postK zl4 (loopK L b3_16 (blockK 0 (seqK (code L (.clear zl10 c3_65) (retK [.tmp 4])) (retK [.tmp 4]))))))))))
def s3_43 (x1 : Int) (x2 : Nat) (x5 : Nat) (x6 : Int) (x7 : Int) (x8 : Int) (x9 : Int) (M : AMem) : List Value := [junk, .int .u8 x1, .pointer (some ⟨x2, 0, none⟩), junk, junk, .pointer (some ⟨x5, 0, none⟩), .int .i64 x6, .int .i64 x7, .int .i64 x8, .int .i64 x9, junk, junk, junk, junk, junk, junk, junk, junk, junk, junk, junk, junk, junk, junk, junk, junk, junk, junk, junk, junk, junk, junk, junk, junk, junk, junk, junk, junk, junk, junk, junk, junk, junk, junk, junk, junk, junk, junk, junk, junk, junk, junk, junk, junk, junk, junk, junk, junk, junk, junk, junk, junk, junk, junk, junk, junk, junk, junk, junk, junk, junk, junk, junk, junk, junk, junk, junk, junk, junk, junk, junk, junk, junk, junk, junk, junk, junk, junk, junk, junk, junk, junk, junk, junk, junk, junk, junk, junk, junk, junk, junk, junk, junk, junk, junk, junk, junk, junk, junk, junk, junk, junk, junk, junk, junk, junk, junk, junk, junk, junk, junk, junk, junk, junk, junk, junk, junk, junk, junk, junk, junk, junk, junk, junk, junk, junk, junk, junk, junk, junk, junk, junk, junk, junk, junk, junk, junk, junk, junk, junk, junk, junk, junk, junk, junk, junk, junk, junk, junk, junk, junk, junk, junk, junk, junk, junk, junk, junk, junk, junk, junk, junk, junk, junk, junk, junk, junk, junk, junk, junk, junk, junk, junk, junk, junk, junk, junk, junk, junk, junk, junk, junk, junk, junk, junk, junk, junk, junk, junk, junk, junk, junk, junk, junk, junk, junk, junk, junk, junk]
theorem XP3_43 : ∃ P : Rec → Int → Nat → Nat → Int → Int → Int → Int → AMem → Res, P = fun (L : Rec) (x1 : Int) (x2 : Nat) (x5 : Nat) (x6 : Int) (x7 : Int) (x8 : Int) (x9 : Int) (M : AMem) => code L c3_43 (k3_43 L) (s3_43 x1 x2 x5 x6 x7 x8 x9 M) M := ⟨_, rfl⟩
noncomputable def P3_43 : Rec → Int → Nat → Nat → Int → Int → Int → Int → AMem → Res := Classical.choose XP3_43
noncomputable def k3_44 (L : Rec) : KT := blockK 1 (seqK (code L (.clear zl4 c3_64) (postK zl4 (loopK L b3_16 (blockK 0 (seqK (code L (.clear zl10 c3_65) (retK [.tmp 4])) (retK [.tmp 4])))))) (postK zl4 (loopK L b3_16 (blockK 0 (seqK (code L (.clear zl10 c3_65) (retK [.tmp 4])) (retK [.tmp 4]))))))
def s3_44 (x1 : Int) (x2 : Nat) (x5 : Nat) (x6 : Int) (x7 : Int) (x8 : Int) (M : AMem) : List Value := [junk, .int .u8 x1, .pointer (some ⟨x2, 0, none⟩), junk, junk, .pointer (some ⟨x5, 0, none⟩), .int .i64 x6, .int .i64 x7, .int .i64 x8, junk, junk, junk, junk, junk, junk, junk, junk, junk, junk, junk, junk, junk, junk, junk, junk, junk, junk, junk, junk, junk, junk, junk, junk, junk, junk, junk, junk, junk, junk, junk, junk, junk, junk, junk, junk, junk, junk, junk, junk, junk, junk, junk, junk, junk, junk, junk, junk, junk, junk, junk, junk, junk, junk, junk, junk, junk, junk, junk, junk, junk, junk, junk, junk, junk, junk, junk, junk, junk, junk, junk, junk, junk, junk, junk, junk, junk, junk, junk, junk, junk, junk, junk, junk, junk, junk, junk, junk, junk, junk, junk, junk, junk, junk, junk, junk, junk, junk, junk, junk, junk, junk, junk, junk, junk, junk, junk, junk, junk, junk, junk, junk, junk, junk, junk, junk, junk, junk, junk, junk, junk, junk, junk, junk, junk, junk, junk, junk, junk, junk, junk, junk, junk, junk, junk, junk, junk, junk, junk, junk, junk, junk, junk, junk, junk, junk, junk, junk, junk, junk, junk, junk, junk, junk, junk, junk, junk, junk, junk, junk, junk, junk, junk, junk, junk, junk, junk, junk, junk, junk, junk, junk, junk, junk, junk, junk, junk, junk, junk, junk, junk, junk, junk, junk, junk, junk, junk, junk, junk, junk, junk, junk, junk, junk, junk, junk, junk, junk, junk, junk]
theorem XP3_44 : ∃ P : Rec → Int → Nat → Nat → Int → Int → Int → AMem → Res, P = fun (L : Rec) (x1 : Int) (x2 : Nat) (x5 : Nat) (x6 : Int) (x7 : Int) (x8 : Int) (M : AMem) => code L c3_44 (k3_44 L) (s3_44 x1 x2 x5 x6 x7 x8 M) M := ⟨_, rfl⟩
noncomputable def P3_44 : Rec → Int → Nat → Nat → Int → Int → Int → AMem → Res := Classical.choose XP3_44
noncomputable def k3_74 (L : Rec) : KT := seqK (code L (.seq (.seq (.ops o3_81) (.block 6 (.clear zl6 (.loop b3_83)))) (.clear zl8 c3_102)) (retK [.tmp 4])) (retK [.tmp 4])
def s3_74 (x2 : Nat) (x11 : Int) (x12 : Nat) (x14 : Nat) (x145 : Bool) (M : AMem) : List Value := [junk, junk, .pointer (some ⟨x2, 0, none⟩), junk, junk, junk, junk, junk, junk, junk, junk, .int .i64 x11, .pointer (some ⟨x12, 0, none⟩), junk, .pointer (some ⟨x14, 0, none⟩), junk, junk, junk, junk, junk, junk, junk, junk, junk, junk, junk, junk, junk, junk, junk, junk, junk, junk, junk, junk, junk, junk, junk, junk, junk, junk, junk, junk, junk, junk, junk, junk, junk, junk, junk, junk, junk, junk, junk, junk, junk, junk, junk, junk, junk, junk, junk, junk, junk, junk, junk, junk, junk, junk, junk, junk, junk, junk, junk, junk, junk, junk, junk, junk, junk, junk, junk, junk, junk, junk, junk, junk, junk, junk, junk, junk, junk, junk, junk, junk, junk, junk, junk, junk, junk, junk, junk, junk, junk, junk, junk, junk, junk, junk, junk, junk, junk, junk, junk, junk, junk, junk, junk, junk, junk, junk, junk, junk, junk, junk, junk, junk, junk, junk, junk, junk, junk, junk, junk, junk, junk, junk, junk, junk, junk, junk, junk, junk, junk, junk, .bool x145, junk, junk, junk, junk, junk, junk, junk, junk, junk, junk, junk, junk, junk, junk, junk, junk, junk, junk, junk, junk, junk, junk, junk, junk, junk, junk, junk, junk, junk, junk, junk, junk, junk, junk, junk, junk, junk, junk, junk, junk, junk, junk, junk, junk, junk, junk, junk, junk, junk, junk, junk, junk, junk, junk, junk, junk, junk, junk, junk, junk, junk, junk, junk]
theorem XP3_74 : ∃ P : Rec → Nat → Int → Nat → Nat → Bool → AMem → Res, P = fun (L : Rec) (x2 : Nat) (x11 : Int) (x12 : Nat) (x14 : Nat) (x145 : Bool) (M : AMem) => code L c3_74 (k3_74 L) (s3_74 x2 x11 x12 x14 x145 M) M := ⟨_, rfl⟩
noncomputable def P3_74 : Rec → Nat → Int → Nat → Nat → Bool → AMem → Res := Classical.choose XP3_74
noncomputable def k3_47 (L : Rec) : KT := blockK 4 (blockK 1 (seqK (code L (.clear zl4 c3_64) (postK zl4 (loopK L b3_16 (blockK 0 (seqK (code L (.clear zl10 c3_65) (retK [.tmp 4])) (retK [.tmp 4])))))) (postK zl4 (loopK L b3_16 (blockK 0 (seqK (code L (.clear zl10 c3_65) (retK [.tmp 4])) (retK [.tmp 4])))))))
def s3_47 (x1 : Int) (x2 : Nat) (x5 : Nat) (x6 : Int) (x7 : Int) (x8 : Int) (x10 : Int) (M : AMem) : List Value := [junk, .int .u8 x1, .pointer (some ⟨x2, 0, none⟩), junk, junk, .pointer (some ⟨x5, 0, none⟩), .int .i64 x6, .int .i64 x7, .int .i64 x8, junk, .int .i64 x10, junk, junk, junk, junk, junk, junk, junk, junk, junk, junk, junk, junk, junk, junk, junk, junk, junk, junk, junk, junk, junk, junk, junk, junk, junk, junk, junk, junk, junk, junk, junk, junk, junk, junk, junk, junk, junk, junk, junk, junk, junk, junk, junk, junk, junk, junk, junk, junk, junk, junk, junk, junk, junk, junk, junk, junk, junk, junk, junk, junk, junk, junk, junk, junk, junk, junk, junk, junk, junk, junk, junk, junk, junk, junk, junk, junk, junk, junk, junk, junk, junk, junk, junk, junk, junk, junk, junk, junk, junk, junk, junk, junk, junk, junk, junk, junk, junk, junk, junk, junk, junk, junk, junk, junk, junk, junk, junk, junk, junk, junk, junk, junk, junk, junk, junk, junk, junk, junk, junk, junk, junk, junk, junk, junk, junk, junk, junk, junk, junk, junk, junk, junk, junk, junk, junk, junk, junk, junk, junk, junk, junk, junk, junk, junk, junk, junk, junk, junk, junk, junk, junk, junk, junk, junk, junk, junk, junk, junk, junk, junk, junk, junk, junk, junk, junk, junk, junk, junk, junk, junk, junk, junk, junk, junk, junk, junk, junk, junk, junk, junk, junk, junk, junk, junk, junk, junk, junk, junk, junk, junk, junk, junk, junk, junk, junk, junk, junk, junk]
theorem XP3_47 : ∃ P : Rec → Int → Nat → Nat → Int → Int → Int → Int → AMem → Res, P = fun (L : Rec) (x1 : Int) (x2 : Nat) (x5 : Nat) (x6 : Int) (x7 : Int) (x8 : Int) (x10 : Int) (M : AMem) => L.loop b3_47 (k3_47 L) (s3_47 x1 x2 x5 x6 x7 x8 x10 M) M := ⟨_, rfl⟩
noncomputable def P3_47 : Rec → Int → Nat → Nat → Int → Int → Int → Int → AMem → Res := Classical.choose XP3_47
noncomputable def k3_83 (L : Rec) : KT := blockK 6 (seqK (code L (.clear zl8 c3_102) (retK [.tmp 4])) (retK [.tmp 4]))
def s3_83 (x2 : Nat) (x11 : Int) (x12 : Nat) (x14 : Nat) (x16 : Int) (M : AMem) : List Value := [junk, junk, .pointer (some ⟨x2, 0, none⟩), junk, junk, junk, junk, junk, junk, junk, junk, .int .i64 x11, .pointer (some ⟨x12, 0, none⟩), junk, .pointer (some ⟨x14, 0, none⟩), junk, .int .i64 x16, junk, junk, junk, junk, junk, junk, junk, junk, junk, junk, junk, junk, junk, junk, junk, junk, junk, junk, junk, junk, junk, junk, junk, junk, junk, junk, junk, junk, junk, junk, junk, junk, junk, junk, junk, junk, junk, junk, junk, junk, junk, junk, junk, junk, junk, junk, junk, junk, junk, junk, junk, junk, junk, junk, junk, junk, junk, junk, junk, junk, junk, junk, junk, junk, junk, junk, junk, junk, junk, junk, junk, junk, junk, junk, junk, junk, junk, junk, junk, junk, junk, junk, junk, junk, junk, junk, junk, junk, junk, junk, junk, junk, junk, junk, junk, junk, junk, junk, junk, junk, junk, junk, junk, junk, junk, junk, junk, junk, junk, junk, junk, junk, junk, junk, junk, junk, junk, junk, junk, junk, junk, junk, junk, junk, junk, junk, junk, junk, junk, junk, junk, junk, junk, junk, junk, junk, junk, junk, junk, junk, junk, junk, junk, junk, junk, junk, junk, junk, junk, junk, junk, junk, junk, junk, junk, junk, junk, junk, junk, junk, junk, junk, junk, junk, junk, junk, junk, junk, junk, junk, junk, junk, junk, junk, junk, junk, junk, junk, junk, junk, junk, junk, junk, junk, junk, junk, junk, junk, junk, junk, junk, junk]
theorem XP3_83 : ∃ P : Rec → Nat → Int → Nat → Nat → Int → AMem → Res, P = fun (L : Rec) (x2 : Nat) (x11 : Int) (x12 : Nat) (x14 : Nat) (x16 : Int) (M : AMem) => L.loop b3_83 (k3_83 L) (s3_83 x2 x11 x12 x14 x16 M) M := ⟨_, rfl⟩
noncomputable def P3_83 : Rec → Nat → Int → Nat → Nat → Int → AMem → Res := Classical.choose XP3_83
noncomputable def k3_63 (L : Rec) : KT := postK zl2 (loopK L b3_47 (blockK 4 (blockK 1 (seqK (code L (.clear zl4 c3_64) (postK zl4 (loopK L b3_16 (blockK 0 (seqK (code L (.clear zl10 c3_65) (retK [.tmp 4])) (retK [.tmp 4])))))) (postK zl4 (loopK L b3_16 (blockK 0 (seqK (code L (.clear zl10 c3_65) (retK [.tmp 4])) (retK [.tmp 4])))))))))
def s3_63 (x1 : Int) (x2 : Nat) (x5 : Nat) (x6 : Int) (x7 : Int) (x8 : Int) (x10 : Int) (M : AMem) : List Value := [junk, .int .u8 x1, .pointer (some ⟨x2, 0, none⟩), junk, junk, .pointer (some ⟨x5, 0, none⟩), .int .i64 x6, .int .i64 x7, .int .i64 x8, junk, .int .i64 x10, junk, junk, junk, junk, junk, junk, junk, junk, junk, junk, junk, junk, junk, junk, junk, junk, junk, junk, junk, junk, junk, junk, junk, junk, junk, junk, junk, junk, junk, junk, junk, junk, junk, junk, junk, junk, junk, junk, junk, junk, junk, junk, junk, junk, junk, junk, junk, junk, junk, junk, junk, junk, junk, junk, junk, junk, junk, junk, junk, junk, junk, junk, junk, junk, junk, junk, junk, junk, junk, junk, junk, junk, junk, junk, junk, junk, junk, junk, junk, junk, junk, junk, junk, junk, junk, junk, junk, junk, junk, junk, junk, junk, junk, junk, junk, junk, junk, junk, junk, junk, junk, junk, junk, junk, junk, junk, junk, junk, junk, junk, junk, junk, junk, junk, junk, junk, junk, junk, junk, junk, junk, junk, junk, junk, junk, junk, junk, junk, junk, junk, junk, junk, junk, junk, junk, junk, junk, junk, junk, junk, junk, junk, junk, junk, junk, junk, junk, junk, junk, junk, junk, junk, junk, junk, junk, junk, junk, junk, junk, junk, junk, junk, junk, junk, junk, junk, junk, junk, junk, junk, junk, junk, junk, junk, junk, junk, junk, junk, junk, junk, junk, junk, junk, junk, junk, junk, junk, junk, junk, junk, junk, junk, junk, junk, junk, junk, junk, junk]
theorem XP3_63 : ∃ P : Rec → Int → Nat → Nat → Int → Int → Int → Int → AMem → Res, P = fun (L : Rec) (x1 : Int) (x2 : Nat) (x5 : Nat) (x6 : Int) (x7 : Int) (x8 : Int) (x10 : Int) (M : AMem) => code L c3_63 (k3_63 L) (s3_63 x1 x2 x5 x6 x7 x8 x10 M) M := ⟨_, rfl⟩
noncomputable def P3_63 : Rec → Int → Nat → Nat → Int → Int → Int → Int → AMem → Res := Classical.choose XP3_63
noncomputable def k3_64 (L : Rec) : KT := postK zl4 (loopK L b3_16 (blockK 0 (seqK (code L (.clear zl10 c3_65) (retK [.tmp 4])) (retK [.tmp 4]))))
def s3_64 (x1 : Int) (x2 : Nat) (x5 : Nat) (x6 : Int) (M : AMem) : List Value := [junk, .int .u8 x1, .pointer (some ⟨x2, 0, none⟩), junk, junk, .pointer (some ⟨x5, 0, none⟩), .int .i64 x6, junk, junk, junk, junk, junk, junk, junk, junk, junk, junk, junk, junk, junk, junk, junk, junk, junk, junk, junk, junk, junk, junk, junk, junk, junk, junk, junk, junk, junk, junk, junk, junk, junk, junk, junk, junk, junk, junk, junk, junk, junk, junk, junk, junk, junk, junk, junk, junk, junk, junk, junk, junk, junk, junk, junk, junk, junk, junk, junk, junk, junk, junk, junk, junk, junk, junk, junk, junk, junk, junk, junk, junk, junk, junk, junk, junk, junk, junk, junk, junk, junk, junk, junk, junk, junk, junk, junk, junk, junk, junk, junk, junk, junk, junk, junk, junk, junk, junk, junk, junk, junk, junk, junk, junk, junk, junk, junk, junk, junk, junk, junk, junk, junk, junk, junk, junk, junk, junk, junk, junk, junk, junk, junk, junk, junk, junk, junk, junk, junk, junk, junk, junk, junk, junk, junk, junk, junk, junk, junk, junk, junk, junk, junk, junk, junk, junk, junk, junk, junk, junk, junk, junk, junk, junk, junk, junk, junk, junk, junk, junk, junk, junk, junk, junk, junk, junk, junk, junk, junk, junk, junk, junk, junk, junk, junk, junk, junk, junk, junk, junk, junk, junk, junk, junk, junk, junk, junk, junk, junk, junk, junk, junk, junk, junk, junk, junk, junk, junk, junk, junk, junk, junk]
theorem XP3_64 : ∃ P : Rec → Int → Nat → Nat → Int → AMem → Res, P = fun (L : Rec) (x1 : Int) (x2 : Nat) (x5 : Nat) (x6 : Int) (M : AMem) => code L c3_64 (k3_64 L) (s3_64 x1 x2 x5 x6 M) M := ⟨_, rfl⟩
noncomputable def P3_64 : Rec → Int → Nat → Nat → Int → AMem → Res := Classical.choose XP3_64
noncomputable def k3_96 (L : Rec) : KT := blockK 7 (seqK (code L (.clear zl6 c3_101) (postK zl6 (loopK L b3_83 (blockK 6 (seqK (code L (.clear zl8 c3_102) (retK [.tmp 4])) (retK [.tmp 4])))))) (postK zl6 (loopK L b3_83 (blockK 6 (seqK (code L (.clear zl8 c3_102) (retK [.tmp 4])) (retK [.tmp 4]))))))
def s3_96 (x2 : Nat) (x11 : Int) (x12 : Nat) (x14 : Nat) (x16 : Int) (x207 : Bool) (M : AMem) : List Value := [junk, junk, .pointer (some ⟨x2, 0, none⟩), junk, junk, junk, junk, junk, junk, junk, junk, .int .i64 x11, .pointer (some ⟨x12, 0, none⟩), junk, .pointer (some ⟨x14, 0, none⟩), junk, .int .i64 x16, junk, junk, junk, junk, junk, junk, junk, junk, junk, junk, junk, junk, junk, junk, junk, junk, junk, junk, junk, junk, junk, junk, junk, junk, junk, junk, junk, junk, junk, junk, junk, junk, junk, junk, junk, junk, junk, junk, junk, junk, junk, junk, junk, junk, junk, junk, junk, junk, junk, junk, junk, junk, junk, junk, junk, junk, junk, junk, junk, junk, junk, junk, junk, junk, junk, junk, junk, junk, junk, junk, junk, junk, junk, junk, junk, junk, junk, junk, junk, junk, junk, junk, junk, junk, junk, junk, junk, junk, junk, junk, junk, junk, junk, junk, junk, junk, junk, junk, junk, junk, junk, junk, junk, junk, junk, junk, junk, junk, junk, junk, junk, junk, junk, junk, junk, junk, junk, junk, junk, junk, junk, junk, junk, junk, junk, junk, junk, junk, junk, junk, junk, junk, junk, junk, junk, junk, junk, junk, junk, junk, junk, junk, junk, junk, junk, junk, junk, junk, junk, junk, junk, junk, junk, junk, junk, junk, junk, junk, junk, junk, junk, junk, junk, junk, junk, junk, junk, junk, junk, junk, junk, junk, junk, junk, junk, junk, junk, junk, junk, junk, junk, junk, junk, junk, junk, junk, junk, junk, junk, junk, .bool x207, junk]
theorem XP3_96 : ∃ P : Rec → Nat → Int → Nat → Nat → Int → Bool → AMem → Res, P = fun (L : Rec) (x2 : Nat) (x11 : Int) (x12 : Nat) (x14 : Nat) (x16 : Int) (x207 : Bool) (M : AMem) => code L c3_96 (k3_96 L) (s3_96 x2 x11 x12 x14 x16 x207 M) M := ⟨_, rfl⟩
noncomputable def P3_96 : Rec → Nat → Int → Nat → Nat → Int → Bool → AMem → Res := Classical.choose XP3_96
noncomputable def k3_102 (L : Rec) : KT := retK [.tmp 4]
def s3_102 (M : AMem) : List Value := [junk, junk, junk, junk, junk, junk, junk, junk, junk, junk, junk, junk, junk, junk, junk, junk, junk, junk, junk, junk, junk, junk, junk, junk, junk, junk, junk, junk, junk, junk, junk, junk, junk, junk, junk, junk, junk, junk, junk, junk, junk, junk, junk, junk, junk, junk, junk, junk, junk, junk, junk, junk, junk, junk, junk, junk, junk, junk, junk, junk, junk, junk, junk, junk, junk, junk, junk, junk, junk, junk, junk, junk, junk, junk, junk, junk, junk, junk, junk, junk, junk, junk, junk, junk, junk, junk, junk, junk, junk, junk, junk, junk, junk, junk, junk, junk, junk, junk, junk, junk, junk, junk, junk, junk, junk, junk, junk, junk, junk, junk, junk, junk, junk, junk, junk, junk, junk, junk, junk, junk, junk, junk, junk, junk, junk, junk, junk, junk, junk, junk, junk, junk, junk, junk, junk, junk, junk, junk, junk, junk, junk, junk, junk, junk, junk, junk, junk, junk, junk, junk, junk, junk, junk, junk, junk, junk, junk, junk, junk, junk, junk, junk, junk, junk, junk, junk, junk, junk, junk, junk, junk, junk, junk, junk, junk, junk, junk, junk, junk, junk, junk, junk, junk, junk, junk, junk, junk, junk, junk, junk, junk, junk, junk, junk, junk, junk, junk, junk, junk, junk, junk, junk, junk, junk, junk, junk, junk, junk, junk]
theorem XP3_102 : ∃ P : Rec → AMem → Res, P = fun (L : Rec) (M : AMem) => code L c3_102 (k3_102 L) (s3_102 M) M := ⟨_, rfl⟩
noncomputable def P3_102 : Rec → AMem → Res := Classical.choose XP3_102
noncomputable def k3_101 (L : Rec) : KT := postK zl6 (loopK L b3_83 (blockK 6 (seqK (code L (.clear zl8 c3_102) (retK [.tmp 4])) (retK [.tmp 4]))))
def s3_101 (x2 : Nat) (x11 : Int) (x12 : Nat) (x14 : Nat) (x16 : Int) (M : AMem) : List Value := [junk, junk, .pointer (some ⟨x2, 0, none⟩), junk, junk, junk, junk, junk, junk, junk, junk, .int .i64 x11, .pointer (some ⟨x12, 0, none⟩), junk, .pointer (some ⟨x14, 0, none⟩), junk, .int .i64 x16, junk, junk, junk, junk, junk, junk, junk, junk, junk, junk, junk, junk, junk, junk, junk, junk, junk, junk, junk, junk, junk, junk, junk, junk, junk, junk, junk, junk, junk, junk, junk, junk, junk, junk, junk, junk, junk, junk, junk, junk, junk, junk, junk, junk, junk, junk, junk, junk, junk, junk, junk, junk, junk, junk, junk, junk, junk, junk, junk, junk, junk, junk, junk, junk, junk, junk, junk, junk, junk, junk, junk, junk, junk, junk, junk, junk, junk, junk, junk, junk, junk, junk, junk, junk, junk, junk, junk, junk, junk, junk, junk, junk, junk, junk, junk, junk, junk, junk, junk, junk, junk, junk, junk, junk, junk, junk, junk, junk, junk, junk, junk, junk, junk, junk, junk, junk, junk, junk, junk, junk, junk, junk, junk, junk, junk, junk, junk, junk, junk, junk, junk, junk, junk, junk, junk, junk, junk, junk, junk, junk, junk, junk, junk, junk, junk, junk, junk, junk, junk, junk, junk, junk, junk, junk, junk, junk, junk, junk, junk, junk, junk, junk, junk, junk, junk, junk, junk, junk, junk, junk, junk, junk, junk, junk, junk, junk, junk, junk, junk, junk, junk, junk, junk, junk, junk, junk, junk, junk, junk, junk, junk, junk]
theorem XP3_101 : ∃ P : Rec → Nat → Int → Nat → Nat → Int → AMem → Res, P = fun (L : Rec) (x2 : Nat) (x11 : Int) (x12 : Nat) (x14 : Nat) (x16 : Int) (M : AMem) => code L c3_101 (k3_101 L) (s3_101 x2 x11 x12 x14 x16 M) M := ⟨_, rfl⟩
noncomputable def P3_101 : Rec → Nat → Int → Nat → Nat → Int → AMem → Res := Classical.choose XP3_101
theorem QP3_16_eq (L : Rec) (b3_16 b3_31 c3_44 c3_64 c3_65 : ACode) (hb : ∀ K t A, L.loop b3_16 K t A = code L (.post (.seq (.seq (.ops o3_19) (.cond (.tmp 33) (.skip) (.exit 0))) (.seq (.block 1 (.seq (.ops o3_26) (.seq (.seq (.ops o3_29) (.block 2 (.clear zl1 (.loop b3_31)))) (.clear zl3 c3_44)))) (.clear zl4 c3_64))) zl4) (loopK L b3_16 K) t A) (P3_16 : Rec → Int → Nat → Nat → Int → AMem → Res) (hP3_16 : P3_16 = fun (L : Rec) (x1 : Int) (x2 : Nat) (x5 : Nat) (x6 : Int) (M : AMem) => L.loop b3_16 (blockK 0 (seqK (code L (.clear zl10 c3_65) (retK [.tmp 4])) (retK [.tmp 4]))) (s3_16 x1 x2 x5 x6 M) M) (P3_31 : Rec → Int → Nat → Nat → Int → Int → Int → Int → AMem → Res) (hP3_31 : P3_31 = fun (L : Rec) (x1 : Int) (x2 : Nat) (x5 : Nat) (x6 : Int) (x7 : Int) (x8 : Int) (x9 : Int) (M : AMem) => L.loop b3_31 (blockK 2 (seqK (code L (.clear zl3 c3_44) (blockK 1 (seqK (code L (.clear zl4 c3_64) (postK zl4 (loopK L b3_16 (blockK 0 (seqK (code L (.clear zl10 c3_65) (retK [.tmp 4])) (retK [.tmp 4])))))) (postK zl4 (loopK L b3_16 (blockK 0 (seqK (code L (.clear zl10 c3_65) (retK [.tmp 4])) (retK [.tmp 4])))))))) (blockK 1 (seqK (code L (.clear zl4 c3_64) (postK zl4 (loopK L b3_16 (blockK 0 (seqK (code L (.clear zl10 c3_65) (retK [.tmp 4])) (retK [.tmp 4])))))) (postK zl4 (loopK L b3_16 (blockK 0 (seqK (code L (.clear zl10 c3_65) (retK [.tmp 4])) (retK [.tmp 4]))))))))) (s3_31 x1 x2 x5 x6 x7 x8 x9 M) M) (P3_65 : Rec → Int → Nat → AMem → Res) (hP3_65 : P3_65 = fun (L : Rec) (x1 : Int) (x2 : Nat) (M : AMem) => code L c3_65 (retK [.tmp 4]) (s3_65 x1 x2 M) M) (x1 : Int) (x2 : Nat) (x5 : Nat) (x6 : Int) (M : AMem) : P3_16 L x1 x2 x5 x6 M =
  (if (decide (x6 < 3)) = true
    then P3_31 L x1 x2 x5 x6 255 0 0 M
    else P3_65 L x1 x2 M) := by
  subst hP3_16; subst hP3_31; subst hP3_65; exact (hb (blockK 0 (seqK (code L (.clear zl10 c3_65) (retK [.tmp 4])) (retK [.tmp 4]))) (s3_16 x1 x2 x5 x6 M) M).trans (by kernel_rfl)
theorem P3_16_eq (L : Rec) (hL : ∀ b K t A, L.loop b K t A = code L b (loopK L b K) t A) (x1 : Int) (x2 : Nat) (x5 : Nat) (x6 : Int) (M : AMem) : P3_16 L x1 x2 x5 x6 M =
  (if (decide (x6 < 3)) = true
    then P3_31 L x1 x2 x5 x6 255 0 0 M
    else P3_65 L x1 x2 M) := QP3_16_eq L b3_16 b3_31 c3_44 c3_64 c3_65 (hL b3_16) P3_16 (Classical.choose_spec XP3_16) P3_31 (Classical.choose_spec XP3_31) P3_65 (Classical.choose_spec XP3_65) x1 x2 x5 x6 M
theorem QP3_31_eq (L : Rec) (b3_16 b3_31 c3_35 c3_43 c3_44 c3_64 c3_65 : ACode) (hb : ∀ K t A, L.loop b3_31 K t A = code L (.post (.seq (.seq (.ops o3_34) (.clear zl0 c3_35)) (.seq (.block 3 (.seq (.ops o3_41) (.ops o3_42))) (.clear zl1 c3_43))) zl1) (loopK L b3_31 K) t A) (P3_31 : Rec → Int → Nat → Nat → Int → Int → Int → Int → AMem → Res) (hP3_31 : P3_31 = fun (L : Rec) (x1 : Int) (x2 : Nat) (x5 : Nat) (x6 : Int) (x7 : Int) (x8 : Int) (x9 : Int) (M : AMem) => L.loop b3_31 (blockK 2 (seqK (code L (.clear zl3 c3_44) (blockK 1 (seqK (code L (.clear zl4 c3_64) (postK zl4 (loopK L b3_16 (blockK 0 (seqK (code L (.clear zl10 c3_65) (retK [.tmp 4])) (retK [.tmp 4])))))) (postK zl4 (loopK L b3_16 (blockK 0 (seqK (code L (.clear zl10 c3_65) (retK [.tmp 4])) (retK [.tmp 4])))))))) (blockK 1 (seqK (code L (.clear zl4 c3_64) (postK zl4 (loopK L b3_16 (blockK 0 (seqK (code L (.clear zl10 c3_65) (retK [.tmp 4])) (retK [.tmp 4])))))) (postK zl4 (loopK L b3_16 (blockK 0 (seqK (code L (.clear zl10 c3_65) (retK [.tmp 4])) (retK [.tmp 4]))))))))) (s3_31 x1 x2 x5 x6 x7 x8 x9 M) M) (P3_35 : Rec → Int → Nat → Nat → Int → Int → Int → Int → Bool → AMem → Res) (hP3_35 : P3_35 = fun (L : Rec) (x1 : Int) (x2 : Nat) (x5 : Nat) (x6 : Int) (x7 : Int) (x8 : Int) (x9 : Int) (x40 : Bool) (M : AMem) => code L c3_35 (seqK (code L (.seq (.block 3 (.seq (.ops o3_41) (.ops o3_42))) (.clear zl1 c3_43)) (postK zl1 (loopK L b3_31 (blockK 2 (seqK (code L (.clear zl3 c3_44) (blockK 1 (seqK (code L (.clear zl4 c3_64) (postK zl4 (loopK L b3_16 (blockK 0 (seqK (code L (.clear zl10 c3_65) (retK [.tmp 4])) (retK [.tmp 4])))))) (postK zl4 (loopK L b3_16 (blockK 0 (seqK (code L (.clear zl10 c3_65) (retK [.tmp 4])) (retK [.tmp 4])))))))) (blockK 1 (seqK (code L (.clear zl4 c3_64) (postK zl4 (loopK L b3_16 (blockK 0 (seqK (code L (.clear zl10 c3_65) (retK [.tmp 4])) (retK [.tmp 4])))))) (postK zl4 (loopK L b3_16 (blockK 0 (seqK (code L (.clear zl10 c3_65) (retK [.tmp 4])) (retK [.tmp 4])))))))))))) (postK zl1 (loopK L b3_31 (blockK 2 (seqK (code L (.clear zl3 c3_44) (blockK 1 (seqK (code L (.clear zl4 c3_64) (postK zl4 (loopK L b3_16 (blockK 0 (seqK (code L (.clear zl10 c3_65) (retK [.tmp 4])) (retK [.tmp 4])))))) (postK zl4 (loopK L b3_16 (blockK 0 (seqK (code L (.clear zl10 c3_65) (retK [.tmp 4])) (retK [.tmp 4])))))))) (blockK 1 (seqK (code L (.clear zl4 c3_64) (postK zl4 (loopK L b3_16 (blockK 0 (seqK (code L (.clear zl10 c3_65) (retK [.tmp 4])) (retK [.tmp 4])))))) (postK zl4 (loopK L b3_16 (blockK 0 (seqK (code L (.clear zl10 c3_65) (retK [.tmp 4])) (retK [.tmp 4])))))))))))) (s3_35 x1 x2 x5 x6 x7 x8 x9 x40 M) M) (x1 : Int) (x2 : Nat) (x5 : Nat) (x6 : Int) (x7 : Int) (x8 : Int) (x9 : Int) (M : AMem) : P3_31 L x1 x2 x5 x6 x7 x8 x9 M =
  (Option.bind (sliceOf? (AMem.ld M x2 2)) fun s_1 =>
    P3_35 L x1 x2 x5 x6 x7 x8 x9 (decide (x9 < (Int.ofNat s_1.2.1))) M) := by
  subst hP3_31; subst hP3_35; exact (hb (blockK 2 (seqK (code L (.clear zl3 c3_44) (blockK 1 (seqK (code L (.clear zl4 c3_64) (postK zl4 (loopK L b3_16 (blockK 0 (seqK (code L (.clear zl10 c3_65) (retK [.tmp 4])) (retK [.tmp 4])))))) (postK zl4 (loopK L b3_16 (blockK 0 (seqK (code L (.clear zl10 c3_65) (retK [.tmp 4])) (retK [.tmp 4])))))))) (blockK 1 (seqK (code L (.clear zl4 c3_64) (postK zl4 (loopK L b3_16 (blockK 0 (seqK (code L (.clear zl10 c3_65) (retK [.tmp 4])) (retK [.tmp 4])))))) (postK zl4 (loopK L b3_16 (blockK 0 (seqK (code L (.clear zl10 c3_65) (retK [.tmp 4])) (retK [.tmp 4]))))))))) (s3_31 x1 x2 x5 x6 x7 x8 x9 M) M).trans (by kernel_rfl)
theorem P3_31_eq (L : Rec) (hL : ∀ b K t A, L.loop b K t A = code L b (loopK L b K) t A) (x1 : Int) (x2 : Nat) (x5 : Nat) (x6 : Int) (x7 : Int) (x8 : Int) (x9 : Int) (M : AMem) : P3_31 L x1 x2 x5 x6 x7 x8 x9 M =
  (Option.bind (sliceOf? (AMem.ld M x2 2)) fun s_1 =>
    P3_35 L x1 x2 x5 x6 x7 x8 x9 (decide (x9 < (Int.ofNat s_1.2.1))) M) := QP3_31_eq L b3_16 b3_31 c3_35 c3_43 c3_44 c3_64 c3_65 (hL b3_31) P3_31 (Classical.choose_spec XP3_31) P3_35 (Classical.choose_spec XP3_35) x1 x2 x5 x6 x7 x8 x9 M
theorem QP3_65_eq (L : Rec) (c3_71 : ACode) (P3_65 : Rec → Int → Nat → AMem → Res) (hP3_65 : P3_65 = fun (L : Rec) (x1 : Int) (x2 : Nat) (M : AMem) => code L (.seq (.ops o3_66) (.seq (.draw f3_68 0 o3_68 [(4, 1), (8, 1), (13, 1), (13, 9)]) (.seq (.draw f3_70 0 o3_70 [(4, 1), (9, 1), (9, 5)]) (.clear zl9 c3_71)))) (retK [.tmp 4]) (s3_65 x1 x2 M) M) (P3_71 : Rec → Nat → Int → Nat → Bool → Nat → Bool → AMem → Res) (hP3_71 : P3_71 = fun (L : Rec) (x2 : Nat) (x11 : Int) (x12 : Nat) (x13 : Bool) (x14 : Nat) (x15 : Bool) (M : AMem) => code L c3_71 (retK [.tmp 4]) (s3_71 x2 x11 x12 x13 x14 x15 M) M) (x1 : Int) (x2 : Nat) (M : AMem) : P3_65 L x1 x2 M =
  (Option.bind (intOf? .i64 (AMem.ld M x2 0)) fun x_1 =>
    (if x_1 = 0
    then none
    else (Option.bind (intOf? .i64 (AMem.ld (M ++ [AObj.cells [.int .i64 0, .int .i64 0, .slice none 0 0] ⟨false, 0⟩]) x2 0)) fun x_2 =>
      (Option.bind (intOf? .i64 (AMem.ld (M ++ [AObj.cells [.int .i64 0, .int .i64 0, .slice none 0 0] ⟨false, 0⟩]) x2 1)) fun x_3 =>
      (Option.bind (sliceOf? (AMem.ld (M ++ [AObj.cells [.int .i64 0, .int .i64 0, .slice none 0 0] ⟨false, 0⟩]) x2 2)) fun s_4 =>
      (Option.bind (L.call 9 [.agg #[.int .i64 x_2, .int .i64 x_3, .slice s_4.1 s_4.2.1 s_4.2.2]] (M ++ [AObj.cells [.int .i64 0, .int .i64 0, .slice none 0 0] ⟨false, 0⟩])) fun r_5 =>
      (Option.bind (aggOf? 3 r_5.1) fun cs_6 =>
      (Option.bind (intOf? .i64 (cs_6[0]?)) fun x_7 =>
      (Option.bind (intOf? .i64 (cs_6[1]?)) fun x_8 =>
      (Option.bind (sliceOf? (cs_6[2]?)) fun s_9 =>
      (Option.bind (intOf? .i64 (AMem.ld r_5.2 x2 0)) fun x_10 =>
      (Option.bind (intOf? .i64 (AMem.ld r_5.2 x2 1)) fun x_11 =>
      (Option.bind (L.call 10 [.agg #[.int .i64 x_7, .int .i64 x_8, .slice s_9.1 s_9.2.1 s_9.2.2], .int .i64 (Int.tmod (IntKind.wrap .i64 x1) x_1), .int .i64 0, .int .i64 (IntKind.wrap .i64 (x_10 - (Int.tmod (IntKind.wrap .i64 x1) x_1))), .int .i64 x_11] r_5.2) fun r_12 =>
      (Option.bind (tupOf? 2 r_12.1) fun cs_13 =>
      (Option.bind (cs_13[0]?) fun u_14 =>
      (Option.bind (aggOf? 3 u_14) fun cs_15 =>
      (Option.bind (intOf? .i64 (cs_15[0]?)) fun x_16 =>
      (Option.bind (intOf? .i64 (cs_15[1]?)) fun x_17 =>
      (Option.bind (sliceOf? (cs_15[2]?)) fun s_18 =>
      (Option.bind (cs_13[1]?) fun u_19 =>
      (Option.bind (boolOf? (some u_19)) fun q_20 =>
      (Option.bind (AMem.wr r_12.2 (List.length M) 0 [.int .i64 x_16, .int .i64 x_17, .slice s_18.1 s_18.2.1 s_18.2.2]) fun M_21 =>
      (if chkOk [(4, 1), (8, 1), (13, 1), (13, 9)] [(13, (List.length M)), (8, x2), (4, x2)] [(9, (r_5.2, r_12.2)), (1, ((M ++ [AObj.cells [.int .i64 0, .int .i64 0, .slice none 0 0] ⟨false, 0⟩]), r_5.2))] = true
      then (Option.bind (intOf? .i64 (AMem.ld (M_21 ++ [AObj.cells [.int .i64 0, .int .i64 0, .slice none 0 0] ⟨false, 0⟩]) x2 0)) fun x_22 =>
        (Option.bind (intOf? .i64 (AMem.ld (M_21 ++ [AObj.cells [.int .i64 0, .int .i64 0, .slice none 0 0] ⟨false, 0⟩]) x2 1)) fun x_23 =>
        (Option.bind (sliceOf? (AMem.ld (M_21 ++ [AObj.cells [.int .i64 0, .int .i64 0, .slice none 0 0] ⟨false, 0⟩]) x2 2)) fun s_24 =>
        (Option.bind (L.call 9 [.agg #[.int .i64 x_22, .int .i64 x_23, .slice s_24.1 s_24.2.1 s_24.2.2]] (M_21 ++ [AObj.cells [.int .i64 0, .int .i64 0, .slice none 0 0] ⟨false, 0⟩])) fun r_25 =>
        (Option.bind (aggOf? 3 r_25.1) fun cs_26 =>
        (Option.bind (intOf? .i64 (cs_26[0]?)) fun x_27 =>
        (Option.bind (intOf? .i64 (cs_26[1]?)) fun x_28 =>
        (Option.bind (sliceOf? (cs_26[2]?)) fun s_29 =>
        (Option.bind (intOf? .i64 (AMem.ld r_25.2 x2 1)) fun x_30 =>
        (Option.bind (L.call 10 [.agg #[.int .i64 x_27, .int .i64 x_28, .slice s_29.1 s_29.2.1 s_29.2.2], .int .i64 0, .int .i64 0, .int .i64 (Int.tmod (IntKind.wrap .i64 x1) x_1), .int .i64 x_30] r_25.2) fun r_31 =>
        (Option.bind (tupOf? 2 r_31.1) fun cs_32 =>
        (Option.bind (cs_32[0]?) fun u_33 =>
        (Option.bind (aggOf? 3 u_33) fun cs_34 =>
        (Option.bind (intOf? .i64 (cs_34[0]?)) fun x_35 =>
        (Option.bind (intOf? .i64 (cs_34[1]?)) fun x_36 =>
        (Option.bind (sliceOf? (cs_34[2]?)) fun s_37 =>
        (Option.bind (cs_32[1]?) fun u_38 =>
        (Option.bind (boolOf? (some u_38)) fun q_39 =>
        (Option.bind (AMem.wr r_31.2 (List.length M_21) 0 [.int .i64 x_35, .int .i64 x_36, .slice s_37.1 s_37.2.1 s_37.2.2]) fun M_40 =>
        (if chkOk [(4, 1), (9, 1), (9, 5)] [(9, (List.length M_21)), (4, x2)] [(5, (r_25.2, r_31.2)), (1, ((M_21 ++ [AObj.cells [.int .i64 0, .int .i64 0, .slice none 0 0] ⟨false, 0⟩]), r_25.2))] = true
        then P3_71 L x2 (Int.tmod (IntKind.wrap .i64 x1) x_1) (List.length M) q_20 (List.length M_21) q_39 M_40
        else none))))))))))))))))))))
      else none))))))))))))))))))))))) := by
  subst hP3_65; subst hP3_71; kernel_rfl
theorem P3_65_eq (L : Rec) (x1 : Int) (x2 : Nat) (M : AMem) : P3_65 L x1 x2 M =
  (Option.bind (intOf? .i64 (AMem.ld M x2 0)) fun x_1 =>
    (if x_1 = 0
    then none
    else (Option.bind (intOf? .i64 (AMem.ld (M ++ [AObj.cells [.int .i64 0, .int .i64 0, .slice none 0 0] ⟨false, 0⟩]) x2 0)) fun x_2 =>
      (Option.bind (intOf? .i64 (AMem.ld (M ++ [AObj.cells [.int .i64 0, .int .i64 0, .slice none 0 0] ⟨false, 0⟩]) x2 1)) fun x_3 =>
      (Option.bind (sliceOf? (AMem.ld (M ++ [AObj.cells [.int .i64 0, .int .i64 0, .slice none 0 0] ⟨false, 0⟩]) x2 2)) fun s_4 =>
      (Option.bind (L.call 9 [.agg #[.int .i64 x_2, .int .i64 x_3, .slice s_4.1 s_4.2.1 s_4.2.2]] (M ++ [AObj.cells [.int .i64 0, .int .i64 0, .slice none 0 0] ⟨false, 0⟩])) fun r_5 =>
      (Option.bind (aggOf? 3 r_5.1) fun cs_6 =>
      (Option.bind (intOf? .i64 (cs_6[0]?)) fun x_7 =>
      (Option.bind (intOf? .i64 (cs_6[1]?)) fun x_8 =>
      (Option.bind (sliceOf? (cs_6[2]?)) fun s_9 =>
      (Option.bind (intOf? .i64 (AMem.ld r_5.2 x2 0)) fun x_10 =>
      (Option.bind (intOf? .i64 (AMem.ld r_5.2 x2 1)) fun x_11 =>
      (Option.bind (L.call 10 [.agg #[.int .i64 x_7, .int .i64 x_8, .slice s_9.1 s_9.2.1 s_9.2.2], .int .i64 (Int.tmod (IntKind.wrap .i64 x1) x_1), .int .i64 0, .int .i64 (IntKind.wrap .i64 (x_10 - (Int.tmod (IntKind.wrap .i64 x1) x_1))), .int .i64 x_11] r_5.2) fun r_12 =>
      (Option.bind (tupOf? 2 r_12.1) fun cs_13 =>
      (Option.bind (cs_13[0]?) fun u_14 =>
      (Option.bind (aggOf? 3 u_14) fun cs_15 =>
      (Option.bind (intOf? .i64 (cs_15[0]?)) fun x_16 =>
      (Option.bind (intOf? .i64 (cs_15[1]?)) fun x_17 =>
      (Option.bind (sliceOf? (cs_15[2]?)) fun s_18 =>
      (Option.bind (cs_13[1]?) fun u_19 =>
      (Option.bind (boolOf? (some u_19)) fun q_20 =>
      (Option.bind (AMem.wr r_12.2 (List.length M) 0 [.int .i64 x_16, .int .i64 x_17, .slice s_18.1 s_18.2.1 s_18.2.2]) fun M_21 =>
      (if chkOk [(4, 1), (8, 1), (13, 1), (13, 9)] [(13, (List.length M)), (8, x2), (4, x2)] [(9, (r_5.2, r_12.2)), (1, ((M ++ [AObj.cells [.int .i64 0, .int .i64 0, .slice none 0 0] ⟨false, 0⟩]), r_5.2))] = true
      then (Option.bind (intOf? .i64 (AMem.ld (M_21 ++ [AObj.cells [.int .i64 0, .int .i64 0, .slice none 0 0] ⟨false, 0⟩]) x2 0)) fun x_22 =>
        (Option.bind (intOf? .i64 (AMem.ld (M_21 ++ [AObj.cells [.int .i64 0, .int .i64 0, .slice none 0 0] ⟨false, 0⟩]) x2 1)) fun x_23 =>
        (Option.bind (sliceOf? (AMem.ld (M_21 ++ [AObj.cells [.int .i64 0, .int .i64 0, .slice none 0 0] ⟨false, 0⟩]) x2 2)) fun s_24 =>
        (Option.bind (L.call 9 [.agg #[.int .i64 x_22, .int .i64 x_23, .slice s_24.1 s_24.2.1 s_24.2.2]] (M_21 ++ [AObj.cells [.int .i64 0, .int .i64 0, .slice none 0 0] ⟨false, 0⟩])) fun r_25 =>
        (Option.bind (aggOf? 3 r_25.1) fun cs_26 =>
        (Option.bind (intOf? .i64 (cs_26[0]?)) fun x_27 =>
        (Option.bind (intOf? .i64 (cs_26[1]?)) fun x_28 =>
        (Option.bind (sliceOf? (cs_26[2]?)) fun s_29 =>
        (Option.bind (intOf? .i64 (AMem.ld r_25.2 x2 1)) fun x_30 =>
        (Option.bind (L.call 10 [.agg #[.int .i64 x_27, .int .i64 x_28, .slice s_29.1 s_29.2.1 s_29.2.2], .int .i64 0, .int .i64 0, .int .i64 (Int.tmod (IntKind.wrap .i64 x1) x_1), .int .i64 x_30] r_25.2) fun r_31 =>
        (Option.bind (tupOf? 2 r_31.1) fun cs_32 =>
        (Option.bind (cs_32[0]?) fun u_33 =>
        (Option.bind (aggOf? 3 u_33) fun cs_34 =>
        (Option.bind (intOf? .i64 (cs_34[0]?)) fun x_35 =>
        (Option.bind (intOf? .i64 (cs_34[1]?)) fun x_36 =>
        (Option.bind (sliceOf? (cs_34[2]?)) fun s_37 =>
        (Option.bind (cs_32[1]?) fun u_38 =>
        (Option.bind (boolOf? (some u_38)) fun q_39 =>
        (Option.bind (AMem.wr r_31.2 (List.length M_21) 0 [.int .i64 x_35, .int .i64 x_36, .slice s_37.1 s_37.2.1 s_37.2.2]) fun M_40 =>
        (if chkOk [(4, 1), (9, 1), (9, 5)] [(9, (List.length M_21)), (4, x2)] [(5, (r_25.2, r_31.2)), (1, ((M_21 ++ [AObj.cells [.int .i64 0, .int .i64 0, .slice none 0 0] ⟨false, 0⟩]), r_25.2))] = true
        then P3_71 L x2 (Int.tmod (IntKind.wrap .i64 x1) x_1) (List.length M) q_20 (List.length M_21) q_39 M_40
        else none))))))))))))))))))))
      else none))))))))))))))))))))))) := QP3_65_eq L c3_71 P3_65 (Classical.choose_spec XP3_65) P3_71 (Classical.choose_spec XP3_71) x1 x2 M
theorem QP3_35_eq (L : Rec) (b3_16 b3_31 c3_43 c3_44 c3_64 c3_65 : ACode) (P3_35 : Rec → Int → Nat → Nat → Int → Int → Int → Int → Bool → AMem → Res) (hP3_35 : P3_35 = fun (L : Rec) (x1 : Int) (x2 : Nat) (x5 : Nat) (x6 : Int) (x7 : Int) (x8 : Int) (x9 : Int) (x40 : Bool) (M : AMem) => code L (.cond (.tmp 40) (.skip) (.exit 2)) (seqK (code L (.seq (.block 3 (.seq (.ops o3_41) (.ops o3_42))) (.clear zl1 c3_43)) (postK zl1 (loopK L b3_31 (blockK 2 (seqK (code L (.clear zl3 c3_44) (blockK 1 (seqK (code L (.clear zl4 c3_64) (postK zl4 (loopK L b3_16 (blockK 0 (seqK (code L (.clear zl10 c3_65) (retK [.tmp 4])) (retK [.tmp 4])))))) (postK zl4 (loopK L b3_16 (blockK 0 (seqK (code L (.clear zl10 c3_65) (retK [.tmp 4])) (retK [.tmp 4])))))))) (blockK 1 (seqK (code L (.clear zl4 c3_64) (postK zl4 (loopK L b3_16 (blockK 0 (seqK (code L (.clear zl10 c3_65) (retK [.tmp 4])) (retK [.tmp 4])))))) (postK zl4 (loopK L b3_16 (blockK 0 (seqK (code L (.clear zl10 c3_65) (retK [.tmp 4])) (retK [.tmp 4])))))))))))) (postK zl1 (loopK L b3_31 (blockK 2 (seqK (code L (.clear zl3 c3_44) (blockK 1 (seqK (code L (.clear zl4 c3_64) (postK zl4 (loopK L b3_16 (blockK 0 (seqK (code L (.clear zl10 c3_65) (retK [.tmp 4])) (retK [.tmp 4])))))) (postK zl4 (loopK L b3_16 (blockK 0 (seqK (code L (.clear zl10 c3_65) (retK [.tmp 4])) (retK [.tmp 4])))))))) (blockK 1 (seqK (code L (.clear zl4 c3_64) (postK zl4 (loopK L b3_16 (blockK 0 (seqK (code L (.clear zl10 c3_65) (retK [.tmp 4])) (retK [.tmp 4])))))) (postK zl4 (loopK L b3_16 (blockK 0 (seqK (code L (.clear zl10 c3_65) (retK [.tmp 4])) (retK [.tmp 4])))))))))))) (s3_35 x1 x2 x5 x6 x7 x8 x9 x40 M) M) (P3_43 : Rec → Int → Nat → Nat → Int → Int → Int → Int → AMem → Res) (hP3_43 : P3_43 = fun (L : Rec) (x1 : Int) (x2 : Nat) (x5 : Nat) (x6 : Int) (x7 : Int) (x8 : Int) (x9 : Int) (M : AMem) => code L c3_43 (postK zl1 (loopK L b3_31 (blockK 2 (seqK (code L (.clear zl3 c3_44) (blockK 1 (seqK (code L (.clear zl4 c3_64) (postK zl4 (loopK L b3_16 (blockK 0 (seqK (code L (.clear zl10 c3_65) (retK [.tmp 4])) (retK [.tmp 4])))))) (postK zl4 (loopK L b3_16 (blockK 0 (seqK (code L (.clear zl10 c3_65) (retK [.tmp 4])) (retK [.tmp 4])))))))) (blockK 1 (seqK (code L (.clear zl4 c3_64) (postK zl4 (loopK L b3_16 (blockK 0 (seqK (code L (.clear zl10 c3_65) (retK [.tmp 4])) (retK [.tmp 4])))))) (postK zl4 (loopK L b3_16 (blockK 0 (seqK (code L (.clear zl10 c3_65) (retK [.tmp 4])) (retK [.tmp 4]))))))))))) (s3_43 x1 x2 x5 x6 x7 x8 x9 M) M) (P3_44 : Rec → Int → Nat → Nat → Int → Int → Int → AMem → Res) (hP3_44 : P3_44 = fun (L : Rec) (x1 : Int) (x2 : Nat) (x5 : Nat) (x6 : Int) (x7 : Int) (x8 : Int) (M : AMem) => code L c3_44 (blockK 1 (seqK (code L (.clear zl4 c3_64) (postK zl4 (loopK L b3_16 (blockK 0 (seqK (code L (.clear zl10 c3_65) (retK [.tmp 4])) (retK [.tmp 4])))))) (postK zl4 (loopK L b3_16 (blockK 0 (seqK (code L (.clear zl10 c3_65) (retK [.tmp 4])) (retK [.tmp 4]))))))) (s3_44 x1 x2 x5 x6 x7 x8 M) M) (x1 : Int) (x2 : Nat) (x5 : Nat) (x6 : Int) (x7 : Int) (x8 : Int) (x9 : Int) (x40 : Bool) (M : AMem) : P3_35 L x1 x2 x5 x6 x7 x8 x9 x40 M =
  (if x40 = true
    then (Option.bind (sliceOf? (AMem.ld M x2 2)) fun s_1 =>
      (match s_1.1 with
      | some a_2 => (if (0 : Int) ≤ x9 ∧ x9 < (Int.ofNat s_1.2.1)
        then (if (0 : Int) ≤ x6 ∧ x6 < 3
          then (Option.bind (intOf? .i64 (AMem.ld M a_2.block ((a_2.off + ((Int.toNat x9) * 3)) + ((Int.toNat x6) * 1)))) fun x_3 =>
            (Option.bind (sliceOf? (AMem.ld M x2 2)) fun s_4 =>
            (match s_4.1 with
            | some a_5 => (if (0 : Int) ≤ x9 ∧ x9 < (Int.ofNat s_4.2.1)
              then (if (0 : Int) ≤ x6 ∧ x6 < 3
                then (Option.bind (intOf? .i64 (AMem.ld M a_5.block ((a_5.off + ((Int.toNat x9) * 3)) + ((Int.toNat x6) * 1)))) fun x_6 =>
                  P3_43 L x1 x2 x5 x6 (if x_3 < x7 then x_3 else x7) (if x_6 > x8 then x_6 else x8) x9 M)
                else none)
              else none)
            | none => none)))
          else none)
        else none)
      | none => none))
    else P3_44 L x1 x2 x5 x6 x7 x8 M) := by
  subst hP3_35; subst hP3_43; subst hP3_44; kernel_rfl
theorem P3_35_eq (L : Rec) (x1 : Int) (x2 : Nat) (x5 : Nat) (x6 : Int) (x7 : Int) (x8 : Int) (x9 : Int) (x40 : Bool) (M : AMem) : P3_35 L x1 x2 x5 x6 x7 x8 x9 x40 M =
  (if x40 = true
    then (Option.bind (sliceOf? (AMem.ld M x2 2)) fun s_1 =>
      (match s_1.1 with
      | some a_2 => (if (0 : Int) ≤ x9 ∧ x9 < (Int.ofNat s_1.2.1)
        then (if (0 : Int) ≤ x6 ∧ x6 < 3
          then (Option.bind (intOf? .i64 (AMem.ld M a_2.block ((a_2.off + ((Int.toNat x9) * 3)) + ((Int.toNat x6) * 1)))) fun x_3 =>
            (Option.bind (sliceOf? (AMem.ld M x2 2)) fun s_4 =>
            (match s_4.1 with
            | some a_5 => (if (0 : Int) ≤ x9 ∧ x9 < (Int.ofNat s_4.2.1)
              then (if (0 : Int) ≤ x6 ∧ x6 < 3
                then (Option.bind (intOf? .i64 (AMem.ld M a_5.block ((a_5.off + ((Int.toNat x9) * 3)) + ((Int.toNat x6) * 1)))) fun x_6 =>
                  P3_43 L x1 x2 x5 x6 (if x_3 < x7 then x_3 else x7) (if x_6 > x8 then x_6 else x8) x9 M)
                else none)
              else none)
            | none => none)))
          else none)
        else none)
      | none => none))
    else P3_44 L x1 x2 x5 x6 x7 x8 M) := QP3_35_eq L b3_16 b3_31 c3_43 c3_44 c3_64 c3_65 P3_35 (Classical.choose_spec XP3_35) P3_43 (Classical.choose_spec XP3_43) P3_44 (Classical.choose_spec XP3_44) x1 x2 x5 x6 x7 x8 x9 x40 M
theorem QP3_71_eq (L : Rec) (b3_83 c3_102 c3_74 : ACode) (P3_71 : Rec → Nat → Int → Nat → Bool → Nat → Bool → AMem → Res) (hP3_71 : P3_71 = fun (L : Rec) (x2 : Nat) (x11 : Int) (x12 : Nat) (x13 : Bool) (x14 : Nat) (x15 : Bool) (M : AMem) => code L (.seq (.seq (.ops o3_73) (.clear zl7 c3_74)) (.seq (.seq (.ops o3_81) (.block 6 (.clear zl6 (.loop b3_83)))) (.clear zl8 c3_102))) (retK [.tmp 4]) (s3_71 x2 x11 x12 x13 x14 x15 M) M) (P3_74 : Rec → Nat → Int → Nat → Nat → Bool → AMem → Res) (hP3_74 : P3_74 = fun (L : Rec) (x2 : Nat) (x11 : Int) (x12 : Nat) (x14 : Nat) (x145 : Bool) (M : AMem) => code L c3_74 (seqK (code L (.seq (.seq (.ops o3_81) (.block 6 (.clear zl6 (.loop b3_83)))) (.clear zl8 c3_102)) (retK [.tmp 4])) (retK [.tmp 4])) (s3_74 x2 x11 x12 x14 x145 M) M) (x2 : Nat) (x11 : Int) (x12 : Nat) (x13 : Bool) (x14 : Nat) (x15 : Bool) (M : AMem) : P3_71 L x2 x11 x12 x13 x14 x15 M =
  (if (!x13) = true
    then P3_74 L x2 x11 x12 x14 true M
    else (if (!(x15 == (decide (x11 > 0)))) = true
      then P3_74 L x2 x11 x12 x14 true M
      else (Option.bind (sliceOf? (AMem.ld M x12 2)) fun s_1 =>
        (Option.bind (intOf? .i64 (AMem.ld M x2 0)) fun x_2 =>
        (Option.bind (intOf? .i64 (AMem.ld M x2 1)) fun x_3 =>
        (if ((Int.ofNat s_1.2.1) != (IntKind.wrap .i64 ((IntKind.wrap .i64 (x_2 - x11)) * x_3))) = true
        then P3_74 L x2 x11 x12 x14 true M
        else (Option.bind (sliceOf? (AMem.ld M x14 2)) fun s_4 =>
          (Option.bind (intOf? .i64 (AMem.ld M x2 1)) fun x_5 =>
          P3_74 L x2 x11 x12 x14 ((Int.ofNat s_4.2.1) != (IntKind.wrap .i64 (x11 * x_5))) M)))))))) := by
  subst hP3_71; subst hP3_74; kernel_rfl
theorem P3_71_eq (L : Rec) (x2 : Nat) (x11 : Int) (x12 : Nat) (x13 : Bool) (x14 : Nat) (x15 : Bool) (M : AMem) : P3_71 L x2 x11 x12 x13 x14 x15 M =
  (if (!x13) = true
    then P3_74 L x2 x11 x12 x14 true M
    else (if (!(x15 == (decide (x11 > 0)))) = true
      then P3_74 L x2 x11 x12 x14 true M
      else (Option.bind (sliceOf? (AMem.ld M x12 2)) fun s_1 =>
        (Option.bind (intOf? .i64 (AMem.ld M x2 0)) fun x_2 =>
        (Option.bind (intOf? .i64 (AMem.ld M x2 1)) fun x_3 =>
        (if ((Int.ofNat s_1.2.1) != (IntKind.wrap .i64 ((IntKind.wrap .i64 (x_2 - x11)) * x_3))) = true
        then P3_74 L x2 x11 x12 x14 true M
        else (Option.bind (sliceOf? (AMem.ld M x14 2)) fun s_4 =>
          (Option.bind (intOf? .i64 (AMem.ld M x2 1)) fun x_5 =>
          P3_74 L x2 x11 x12 x14 ((Int.ofNat s_4.2.1) != (IntKind.wrap .i64 (x11 * x_5))) M)))))))) := QP3_71_eq L b3_83 c3_102 c3_74 P3_71 (Classical.choose_spec XP3_71) P3_74 (Classical.choose_spec XP3_74) x2 x11 x12 x13 x14 x15 M
theorem QP3_43_eq (L : Rec) (b3_16 b3_31 c3_44 c3_64 c3_65 : ACode) (P3_31 : Rec → Int → Nat → Nat → Int → Int → Int → Int → AMem → Res) (hP3_31 : P3_31 = fun (L : Rec) (x1 : Int) (x2 : Nat) (x5 : Nat) (x6 : Int) (x7 : Int) (x8 : Int) (x9 : Int) (M : AMem) => L.loop b3_31 (blockK 2 (seqK (code L (.clear zl3 c3_44) (blockK 1 (seqK (code L (.clear zl4 c3_64) (postK zl4 (loopK L b3_16 (blockK 0 (seqK (code L (.clear zl10 c3_65) (retK [.tmp 4])) (retK [.tmp 4])))))) (postK zl4 (loopK L b3_16 (blockK 0 (seqK (code L (.clear zl10 c3_65) (retK [.tmp 4])) (retK [.tmp 4])))))))) (blockK 1 (seqK (code L (.clear zl4 c3_64) (postK zl4 (loopK L b3_16 (blockK 0 (seqK (code L (.clear zl10 c3_65) (retK [.tmp 4])) (retK [.tmp 4])))))) (postK zl4 (loopK L b3_16 (blockK 0 (seqK (code L (.clear zl10 c3_65) (retK [.tmp 4])) (retK [.tmp 4]))))))))) (s3_31 x1 x2 x5 x6 x7 x8 x9 M) M) (P3_43 : Rec → Int → Nat → Nat → Int → Int → Int → Int → AMem → Res) (hP3_43 : P3_43 = fun (L : Rec) (x1 : Int) (x2 : Nat) (x5 : Nat) (x6 : Int) (x7 : Int) (x8 : Int) (x9 : Int) (M : AMem) => code L (.ops o3_43) (postK zl1 (loopK L b3_31 (blockK 2 (seqK (code L (.clear zl3 c3_44) (blockK 1 (seqK (code L (.clear zl4 c3_64) (postK zl4 (loopK L b3_16 (blockK 0 (seqK (code L (.clear zl10 c3_65) (retK [.tmp 4])) (retK [.tmp 4])))))) (postK zl4 (loopK L b3_16 (blockK 0 (seqK (code L (.clear zl10 c3_65) (retK [.tmp 4])) (retK [.tmp 4])))))))) (blockK 1 (seqK (code L (.clear zl4 c3_64) (postK zl4 (loopK L b3_16 (blockK 0 (seqK (code L (.clear zl10 c3_65) (retK [.tmp 4])) (retK [.tmp 4])))))) (postK zl4 (loopK L b3_16 (blockK 0 (seqK (code L (.clear zl10 c3_65) (retK [.tmp 4])) (retK [.tmp 4]))))))))))) (s3_43 x1 x2 x5 x6 x7 x8 x9 M) M) (x1 : Int) (x2 : Nat) (x5 : Nat) (x6 : Int) (x7 : Int) (x8 : Int) (x9 : Int) (M : AMem) : P3_43 L x1 x2 x5 x6 x7 x8 x9 M =
  P3_31 L x1 x2 x5 x6 x7 x8 (IntKind.wrap .i64 (x9 + 1)) M := by
  subst hP3_31; subst hP3_43; kernel_rfl
theorem P3_43_eq (L : Rec) (x1 : Int) (x2 : Nat) (x5 : Nat) (x6 : Int) (x7 : Int) (x8 : Int) (x9 : Int) (M : AMem) : P3_43 L x1 x2 x5 x6 x7 x8 x9 M =
  P3_31 L x1 x2 x5 x6 x7 x8 (IntKind.wrap .i64 (x9 + 1)) M := QP3_43_eq L b3_16 b3_31 c3_44 c3_64 c3_65 P3_31 (Classical.choose_spec XP3_31) P3_43 (Classical.choose_spec XP3_43) x1 x2 x5 x6 x7 x8 x9 M
theorem QP3_44_eq (L : Rec) (b3_16 b3_47 c3_64 c3_65 : ACode) (P3_44 : Rec → Int → Nat → Nat → Int → Int → Int → AMem → Res) (hP3_44 : P3_44 = fun (L : Rec) (x1 : Int) (x2 : Nat) (x5 : Nat) (x6 : Int) (x7 : Int) (x8 : Int) (M : AMem) => code L (.seq (.ops o3_45) (.block 4 (.clear zl2 (.loop b3_47)))) (blockK 1 (seqK (code L (.clear zl4 c3_64) (postK zl4 (loopK L b3_16 (blockK 0 (seqK (code L (.clear zl10 c3_65) (retK [.tmp 4])) (retK [.tmp 4])))))) (postK zl4 (loopK L b3_16 (blockK 0 (seqK (code L (.clear zl10 c3_65) (retK [.tmp 4])) (retK [.tmp 4]))))))) (s3_44 x1 x2 x5 x6 x7 x8 M) M) (P3_47 : Rec → Int → Nat → Nat → Int → Int → Int → Int → AMem → Res) (hP3_47 : P3_47 = fun (L : Rec) (x1 : Int) (x2 : Nat) (x5 : Nat) (x6 : Int) (x7 : Int) (x8 : Int) (x10 : Int) (M : AMem) => L.loop b3_47 (blockK 4 (blockK 1 (seqK (code L (.clear zl4 c3_64) (postK zl4 (loopK L b3_16 (blockK 0 (seqK (code L (.clear zl10 c3_65) (retK [.tmp 4])) (retK [.tmp 4])))))) (postK zl4 (loopK L b3_16 (blockK 0 (seqK (code L (.clear zl10 c3_65) (retK [.tmp 4])) (retK [.tmp 4])))))))) (s3_47 x1 x2 x5 x6 x7 x8 x10 M) M) (x1 : Int) (x2 : Nat) (x5 : Nat) (x6 : Int) (x7 : Int) (x8 : Int) (M : AMem) : P3_44 L x1 x2 x5 x6 x7 x8 M =
  P3_47 L x1 x2 x5 x6 x7 x8 0 M := by
  subst hP3_44; subst hP3_47; kernel_rfl
theorem P3_44_eq (L : Rec) (x1 : Int) (x2 : Nat) (x5 : Nat) (x6 : Int) (x7 : Int) (x8 : Int) (M : AMem) : P3_44 L x1 x2 x5 x6 x7 x8 M =
  P3_47 L x1 x2 x5 x6 x7 x8 0 M := QP3_44_eq L b3_16 b3_47 c3_64 c3_65 P3_44 (Classical.choose_spec XP3_44) P3_47 (Classical.choose_spec XP3_47) x1 x2 x5 x6 x7 x8 M
theorem QP3_74_eq (L : Rec) (b3_83 c3_102 : ACode) (P3_74 : Rec → Nat → Int → Nat → Nat → Bool → AMem → Res) (hP3_74 : P3_74 = fun (L : Rec) (x2 : Nat) (x11 : Int) (x12 : Nat) (x14 : Nat) (x145 : Bool) (M : AMem) => code L (.cond (.tmp 145) (.seq (.ops o3_76) (.ret)) (.skip)) (seqK (code L (.seq (.seq (.ops o3_81) (.block 6 (.clear zl6 (.loop b3_83)))) (.clear zl8 c3_102)) (retK [.tmp 4])) (retK [.tmp 4])) (s3_74 x2 x11 x12 x14 x145 M) M) (P3_83 : Rec → Nat → Int → Nat → Nat → Int → AMem → Res) (hP3_83 : P3_83 = fun (L : Rec) (x2 : Nat) (x11 : Int) (x12 : Nat) (x14 : Nat) (x16 : Int) (M : AMem) => L.loop b3_83 (blockK 6 (seqK (code L (.clear zl8 c3_102) (retK [.tmp 4])) (retK [.tmp 4]))) (s3_83 x2 x11 x12 x14 x16 M) M) (x2 : Nat) (x11 : Int) (x12 : Nat) (x14 : Nat) (x145 : Bool) (M : AMem) : P3_74 L x2 x11 x12 x14 x145 M =
  (if x145 = true
    then some (.bool false, M)
    else P3_83 L x2 x11 x12 x14 0 M) := by
  subst hP3_74; subst hP3_83; kernel_rfl
theorem P3_74_eq (L : Rec) (x2 : Nat) (x11 : Int) (x12 : Nat) (x14 : Nat) (x145 : Bool) (M : AMem) : P3_74 L x2 x11 x12 x14 x145 M =
  (if x145 = true
    then some (.bool false, M)
    else P3_83 L x2 x11 x12 x14 0 M) := QP3_74_eq L b3_83 c3_102 P3_74 (Classical.choose_spec XP3_74) P3_83 (Classical.choose_spec XP3_83) x2 x11 x12 x14 x145 M
theorem QP3_47_eq (L : Rec) (b3_16 b3_47 c3_63 c3_64 c3_65 : ACode) (hb : ∀ K t A, L.loop b3_47 K t A = code L (.post (.seq (.seq (.ops o3_50) (.cond (.tmp 65) (.skip) (.exit 4))) (.seq (.block 5 (.seq (.ops o3_57) (.cond (.tmp 87) (.seq (.ops o3_60) (.ret)) (.skip)))) (.clear zl2 c3_63))) zl2) (loopK L b3_47 K) t A) (P3_47 : Rec → Int → Nat → Nat → Int → Int → Int → Int → AMem → Res) (hP3_47 : P3_47 = fun (L : Rec) (x1 : Int) (x2 : Nat) (x5 : Nat) (x6 : Int) (x7 : Int) (x8 : Int) (x10 : Int) (M : AMem) => L.loop b3_47 (blockK 4 (blockK 1 (seqK (code L (.clear zl4 c3_64) (postK zl4 (loopK L b3_16 (blockK 0 (seqK (code L (.clear zl10 c3_65) (retK [.tmp 4])) (retK [.tmp 4])))))) (postK zl4 (loopK L b3_16 (blockK 0 (seqK (code L (.clear zl10 c3_65) (retK [.tmp 4])) (retK [.tmp 4])))))))) (s3_47 x1 x2 x5 x6 x7 x8 x10 M) M) (P3_63 : Rec → Int → Nat → Nat → Int → Int → Int → Int → AMem → Res) (hP3_63 : P3_63 = fun (L : Rec) (x1 : Int) (x2 : Nat) (x5 : Nat) (x6 : Int) (x7 : Int) (x8 : Int) (x10 : Int) (M : AMem) => code L c3_63 (postK zl2 (loopK L b3_47 (blockK 4 (blockK 1 (seqK (code L (.clear zl4 c3_64) (postK zl4 (loopK L b3_16 (blockK 0 (seqK (code L (.clear zl10 c3_65) (retK [.tmp 4])) (retK [.tmp 4])))))) (postK zl4 (loopK L b3_16 (blockK 0 (seqK (code L (.clear zl10 c3_65) (retK [.tmp 4])) (retK [.tmp 4])))))))))) (s3_63 x1 x2 x5 x6 x7 x8 x10 M) M) (P3_64 : Rec → Int → Nat → Nat → Int → AMem → Res) (hP3_64 : P3_64 = fun (L : Rec) (x1 : Int) (x2 : Nat) (x5 : Nat) (x6 : Int) (M : AMem) => code L c3_64 (postK zl4 (loopK L b3_16 (blockK 0 (seqK (code L (.clear zl10 c3_65) (retK [.tmp 4])) (retK [.tmp 4]))))) (s3_64 x1 x2 x5 x6 M) M) (x1 : Int) (x2 : Nat) (x5 : Nat) (x6 : Int) (x7 : Int) (x8 : Int) (x10 : Int) (M : AMem) : P3_47 L x1 x2 x5 x6 x7 x8 x10 M =
  (Option.bind (sliceOf? (AMem.ld M x5 2)) fun s_1 =>
    (if (decide (x10 < (Int.ofNat s_1.2.1))) = true
    then (Option.bind (sliceOf? (AMem.ld M x5 2)) fun s_2 =>
      (match s_2.1 with
      | some a_3 => (if (0 : Int) ≤ x10 ∧ x10 < (Int.ofNat s_2.2.1)
        then (if (0 : Int) ≤ x6 ∧ x6 < 3
          then (Option.bind (intOf? .i64 (AMem.ld M a_3.block ((a_3.off + ((Int.toNat x10) * 3)) + ((Int.toNat x6) * 1)))) fun x_4 =>
            (if (decide (x_4 < x7)) = true
            then some (.bool false, M)
            else (Option.bind (sliceOf? (AMem.ld M x5 2)) fun s_5 =>
              (match s_5.1 with
              | some a_6 => (if (0 : Int) ≤ x10 ∧ x10 < (Int.ofNat s_5.2.1)
                then (if (0 : Int) ≤ x6 ∧ x6 < 3
                  then (Option.bind (intOf? .i64 (AMem.ld M a_6.block ((a_6.off + ((Int.toNat x10) * 3)) + ((Int.toNat x6) * 1)))) fun x_7 =>
                    (if (decide (x_7 > x8)) = true
                    then some (.bool false, M)
                    else P3_63 L x1 x2 x5 x6 x7 x8 x10 M))
                  else none)
                else none)
              | none => none))))
          else none)
        else none)
      | none => none))
    else P3_64 L x1 x2 x5 x6 M)) := by
  subst hP3_47; subst hP3_63; subst hP3_64; exact (hb (blockK 4 (blockK 1 (seqK (code L (.clear zl4 c3_64) (postK zl4 (loopK L b3_16 (blockK 0 (seqK (code L (.clear zl10 c3_65) (retK [.tmp 4])) (retK [.tmp 4])))))) (postK zl4 (loopK L b3_16 (blockK 0 (seqK (code L (.clear zl10 c3_65) (retK [.tmp 4])) (retK [.tmp 4])))))))) (s3_47 x1 x2 x5 x6 x7 x8 x10 M) M).trans (by kernel_rfl)
theorem P3_47_eq (L : Rec) (hL : ∀ b K t A, L.loop b K t A = code L b (loopK L b K) t A) (x1 : Int) (x2 : Nat) (x5 : Nat) (x6 : Int) (x7 : Int) (x8 : Int) (x10 : Int) (M : AMem) : P3_47 L x1 x2 x5 x6 x7 x8 x10 M =
  (Option.bind (sliceOf? (AMem.ld M x5 2)) fun s_1 =>
    (if (decide (x10 < (Int.ofNat s_1.2.1))) = true
    then (Option.bind (sliceOf? (AMem.ld M x5 2)) fun s_2 =>
      (match s_2.1 with
      | some a_3 => (if (0 : Int) ≤ x10 ∧ x10 < (Int.ofNat s_2.2.1)
        then (if (0 : Int) ≤ x6 ∧ x6 < 3
          then (Option.bind (intOf? .i64 (AMem.ld M a_3.block ((a_3.off + ((Int.toNat x10) * 3)) + ((Int.toNat x6) * 1)))) fun x_4 =>
            (if (decide (x_4 < x7)) = true
            then some (.bool false, M)
            else (Option.bind (sliceOf? (AMem.ld M x5 2)) fun s_5 =>
              (match s_5.1 with
              | some a_6 => (if (0 : Int) ≤ x10 ∧ x10 < (Int.ofNat s_5.2.1)
                then (if (0 : Int) ≤ x6 ∧ x6 < 3
                  then (Option.bind (intOf? .i64 (AMem.ld M a_6.block ((a_6.off + ((Int.toNat x10) * 3)) + ((Int.toNat x6) * 1)))) fun x_7 =>
                    (if (decide (x_7 > x8)) = true
                    then some (.bool false, M)
                    else P3_63 L x1 x2 x5 x6 x7 x8 x10 M))
                  else none)
                else none)
              | none => none))))
          else none)
        else none)
      | none => none))
    else P3_64 L x1 x2 x5 x6 M)) := QP3_47_eq L b3_16 b3_47 c3_63 c3_64 c3_65 (hL b3_47) P3_47 (Classical.choose_spec XP3_47) P3_63 (Classical.choose_spec XP3_63) P3_64 (Classical.choose_spec XP3_64) x1 x2 x5 x6 x7 x8 x10 M
theorem QP3_83_eq (L : Rec) (b3_83 c3_101 c3_102 c3_96 : ACode) (hb : ∀ K t A, L.loop b3_83 K t A = code L (.post (.seq (.seq (.ops o3_86) (.cond (.tmp 150) (.skip) (.exit 6))) (.seq (.block 7 (.seq (.draw [] 0 o3_93 []) (.seq (.draw [] 0 o3_95 []) (.clear zl5 c3_96)))) (.clear zl6 c3_101))) zl6) (loopK L b3_83 K) t A) (P3_83 : Rec → Nat → Int → Nat → Nat → Int → AMem → Res) (hP3_83 : P3_83 = fun (L : Rec) (x2 : Nat) (x11 : Int) (x12 : Nat) (x14 : Nat) (x16 : Int) (M : AMem) => L.loop b3_83 (blockK 6 (seqK (code L (.clear zl8 c3_102) (retK [.tmp 4])) (retK [.tmp 4]))) (s3_83 x2 x11 x12 x14 x16 M) M) (P3_96 : Rec → Nat → Int → Nat → Nat → Int → Bool → AMem → Res) (hP3_96 : P3_96 = fun (L : Rec) (x2 : Nat) (x11 : Int) (x12 : Nat) (x14 : Nat) (x16 : Int) (x207 : Bool) (M : AMem) => code L c3_96 (blockK 7 (seqK (code L (.clear zl6 c3_101) (postK zl6 (loopK L b3_83 (blockK 6 (seqK (code L (.clear zl8 c3_102) (retK [.tmp 4])) (retK [.tmp 4])))))) (postK zl6 (loopK L b3_83 (blockK 6 (seqK (code L (.clear zl8 c3_102) (retK [.tmp 4])) (retK [.tmp 4]))))))) (s3_96 x2 x11 x12 x14 x16 x207 M) M) (P3_102 : Rec → AMem → Res) (hP3_102 : P3_102 = fun (L : Rec) (M : AMem) => code L c3_102 (retK [.tmp 4]) (s3_102 M) M) (x2 : Nat) (x11 : Int) (x12 : Nat) (x14 : Nat) (x16 : Int) (M : AMem) : P3_83 L x2 x11 x12 x14 x16 M =
  (Option.bind (sliceOf? (AMem.ld M x2 2)) fun s_1 =>
    (if (decide (x16 < (Int.ofNat s_1.2.1))) = true
    then (Option.bind (intOf? .i64 (AMem.ld M x2 0)) fun x_2 =>
      (if x_2 = 0
      then none
      else (Option.bind (intOf? .i64 (AMem.ld M x2 0)) fun x_3 =>
        (if x_3 = 0
        then none
        else (if (decide ((Int.tmod x16 x_2) ≥ x11)) = true
          then (Option.bind (sliceOf? (AMem.ld M x12 2)) fun s_4 =>
            (Option.bind (intOf? .i64 (AMem.ld M x2 0)) fun x_5 =>
            (match s_4.1 with
            | some a_6 => (if (0 : Int) ≤ (IntKind.wrap .i64 ((IntKind.wrap .i64 ((IntKind.wrap .i64 ((IntKind.wrap .i64 (Int.tdiv x16 x_3)) * (IntKind.wrap .i64 (x_5 - x11)))) + (Int.tmod x16 x_2))) - x11)) ∧ (IntKind.wrap .i64 ((IntKind.wrap .i64 ((IntKind.wrap .i64 ((IntKind.wrap .i64 (Int.tdiv x16 x_3)) * (IntKind.wrap .i64 (x_5 - x11)))) + (Int.tmod x16 x_2))) - x11)) < (Int.ofNat s_4.2.1)
              then (Option.bind (intOf? .i64 (AMem.ld M a_6.block (a_6.off + ((Int.toNat (IntKind.wrap .i64 ((IntKind.wrap .i64 ((IntKind.wrap .i64 ((IntKind.wrap .i64 (Int.tdiv x16 x_3)) * (IntKind.wrap .i64 (x_5 - x11)))) + (Int.tmod x16 x_2))) - x11))) * 3)))) fun x_7 =>
                (Option.bind (intOf? .i64 (AMem.ld M a_6.block ((a_6.off + ((Int.toNat (IntKind.wrap .i64 ((IntKind.wrap .i64 ((IntKind.wrap .i64 ((IntKind.wrap .i64 (Int.tdiv x16 x_3)) * (IntKind.wrap .i64 (x_5 - x11)))) + (Int.tmod x16 x_2))) - x11))) * 3)) + 1))) fun x_8 =>
                (Option.bind (intOf? .i64 (AMem.ld M a_6.block ((a_6.off + ((Int.toNat (IntKind.wrap .i64 ((IntKind.wrap .i64 ((IntKind.wrap .i64 ((IntKind.wrap .i64 (Int.tdiv x16 x_3)) * (IntKind.wrap .i64 (x_5 - x11)))) + (Int.tmod x16 x_2))) - x11))) * 3)) + 2))) fun x_9 =>
                (Option.bind (sliceOf? (AMem.ld M x2 2)) fun s_10 =>
                (match s_10.1 with
                | some a_11 => (if (0 : Int) ≤ x16 ∧ x16 < (Int.ofNat s_10.2.1)
                  then (Option.bind (intOf? .i64 (AMem.ld M a_11.block (a_11.off + ((Int.toNat x16) * 3)))) fun x_12 =>
                    (Option.bind (intOf? .i64 (AMem.ld M a_11.block ((a_11.off + ((Int.toNat x16) * 3)) + 1))) fun x_13 =>
                    (Option.bind (intOf? .i64 (AMem.ld M a_11.block ((a_11.off + ((Int.toNat x16) * 3)) + 2))) fun x_14 =>
                    (if (!((x_7 == x_12) && ((x_8 == x_13) && (x_9 == x_14)))) = true
                    then P3_96 L x2 x11 x12 x14 x16 true M
                    else (if (decide ((Int.tmod x16 x_2) < x11)) = true
                      then (Option.bind (sliceOf? (AMem.ld M x14 2)) fun s_15 =>
                        (match s_15.1 with
                        | some a_16 => (if (0 : Int) ≤ (IntKind.wrap .i64 ((IntKind.wrap .i64 ((IntKind.wrap .i64 (Int.tdiv x16 x_3)) * x11)) + (Int.tmod x16 x_2))) ∧ (IntKind.wrap .i64 ((IntKind.wrap .i64 ((IntKind.wrap .i64 (Int.tdiv x16 x_3)) * x11)) + (Int.tmod x16 x_2))) < (Int.ofNat s_15.2.1)
                          then (Option.bind (intOf? .i64 (AMem.ld M a_16.block (a_16.off + ((Int.toNat (IntKind.wrap .i64 ((IntKind.wrap .i64 ((IntKind.wrap .i64 (Int.tdiv x16 x_3)) * x11)) + (Int.tmod x16 x_2)))) * 3)))) fun x_17 =>
                            (Option.bind (intOf? .i64 (AMem.ld M a_16.block ((a_16.off + ((Int.toNat (IntKind.wrap .i64 ((IntKind.wrap .i64 ((IntKind.wrap .i64 (Int.tdiv x16 x_3)) * x11)) + (Int.tmod x16 x_2)))) * 3)) + 1))) fun x_18 =>
                            (Option.bind (intOf? .i64 (AMem.ld M a_16.block ((a_16.off + ((Int.toNat (IntKind.wrap .i64 ((IntKind.wrap .i64 ((IntKind.wrap .i64 (Int.tdiv x16 x_3)) * x11)) + (Int.tmod x16 x_2)))) * 3)) + 2))) fun x_19 =>
                            (Option.bind (sliceOf? (AMem.ld M x2 2)) fun s_20 =>
                            (match s_20.1 with
                            | some a_21 => (if (0 : Int) ≤ x16 ∧ x16 < (Int.ofNat s_20.2.1)
                              then (Option.bind (intOf? .i64 (AMem.ld M a_21.block (a_21.off + ((Int.toNat x16) * 3)))) fun x_22 =>
                                (Option.bind (intOf? .i64 (AMem.ld M a_21.block ((a_21.off + ((Int.toNat x16) * 3)) + 1))) fun x_23 =>
                                (Option.bind (intOf? .i64 (AMem.ld M a_21.block ((a_21.off + ((Int.toNat x16) * 3)) + 2))) fun x_24 =>
                                P3_96 L x2 x11 x12 x14 x16 (!((x_17 == x_22) && ((x_18 == x_23) && (x_19 == x_24)))) M)))
                              else none)
                            | none => none)))))
                          else none)
                        | none => none))
                      else P3_96 L x2 x11 x12 x14 x16 false M)))))
                  else none)
                | none => none)))))
              else none)
            | none => none)))
          else (if (decide ((Int.tmod x16 x_2) < x11)) = true
            then (Option.bind (sliceOf? (AMem.ld M x14 2)) fun s_25 =>
              (match s_25.1 with
              | some a_26 => (if (0 : Int) ≤ (IntKind.wrap .i64 ((IntKind.wrap .i64 ((IntKind.wrap .i64 (Int.tdiv x16 x_3)) * x11)) + (Int.tmod x16 x_2))) ∧ (IntKind.wrap .i64 ((IntKind.wrap .i64 ((IntKind.wrap .i64 (Int.tdiv x16 x_3)) * x11)) + (Int.tmod x16 x_2))) < (Int.ofNat s_25.2.1)
                then (Option.bind (intOf? .i64 (AMem.ld M a_26.block (a_26.off + ((Int.toNat (IntKind.wrap .i64 ((IntKind.wrap .i64 ((IntKind.wrap .i64 (Int.tdiv x16 x_3)) * x11)) + (Int.tmod x16 x_2)))) * 3)))) fun x_27 =>
                  (Option.bind (intOf? .i64 (AMem.ld M a_26.block ((a_26.off + ((Int.toNat (IntKind.wrap .i64 ((IntKind.wrap .i64 ((IntKind.wrap .i64 (Int.tdiv x16 x_3)) * x11)) + (Int.tmod x16 x_2)))) * 3)) + 1))) fun x_28 =>
                  (Option.bind (intOf? .i64 (AMem.ld M a_26.block ((a_26.off + ((Int.toNat (IntKind.wrap .i64 ((IntKind.wrap .i64 ((IntKind.wrap .i64 (Int.tdiv x16 x_3)) * x11)) + (Int.tmod x16 x_2)))) * 3)) + 2))) fun x_29 =>
                  (Option.bind (sliceOf? (AMem.ld M x2 2)) fun s_30 =>
                  (match s_30.1 with
                  | some a_31 => (if (0 : Int) ≤ x16 ∧ x16 < (Int.ofNat s_30.2.1)
                    then (Option.bind (intOf? .i64 (AMem.ld M a_31.block (a_31.off + ((Int.toNat x16) * 3)))) fun x_32 =>
                      (Option.bind (intOf? .i64 (AMem.ld M a_31.block ((a_31.off + ((Int.toNat x16) * 3)) + 1))) fun x_33 =>
                      (Option.bind (intOf? .i64 (AMem.ld M a_31.block ((a_31.off + ((Int.toNat x16) * 3)) + 2))) fun x_34 =>
                      P3_96 L x2 x11 x12 x14 x16 (!((x_27 == x_32) && ((x_28 == x_33) && (x_29 == x_34)))) M)))
                    else none)
                  | none => none)))))
                else none)
              | none => none))
            else P3_96 L x2 x11 x12 x14 x16 false M))))))
    else P3_102 L M)) := by
  subst hP3_83; subst hP3_96; subst hP3_102; exact (hb (blockK 6 (seqK (code L (.clear zl8 c3_102) (retK [.tmp 4])) (retK [.tmp 4]))) (s3_83 x2 x11 x12 x14 x16 M) M).trans (by kernel_rfl)
theorem P3_83_eq (L : Rec) (hL : ∀ b K t A, L.loop b K t A = code L b (loopK L b K) t A) (x2 : Nat) (x11 : Int) (x12 : Nat) (x14 : Nat) (x16 : Int) (M : AMem) : P3_83 L x2 x11 x12 x14 x16 M =
  (Option.bind (sliceOf? (AMem.ld M x2 2)) fun s_1 =>
    (if (decide (x16 < (Int.ofNat s_1.2.1))) = true
    then (Option.bind (intOf? .i64 (AMem.ld M x2 0)) fun x_2 =>
      (if x_2 = 0
      then none
      else (Option.bind (intOf? .i64 (AMem.ld M x2 0)) fun x_3 =>
        (if x_3 = 0
        then none
        else (if (decide ((Int.tmod x16 x_2) ≥ x11)) = true
          then (Option.bind (sliceOf? (AMem.ld M x12 2)) fun s_4 =>
            (Option.bind (intOf? .i64 (AMem.ld M x2 0)) fun x_5 =>
            (match s_4.1 with
            | some a_6 => (if (0 : Int) ≤ (IntKind.wrap .i64 ((IntKind.wrap .i64 ((IntKind.wrap .i64 ((IntKind.wrap .i64 (Int.tdiv x16 x_3)) * (IntKind.wrap .i64 (x_5 - x11)))) + (Int.tmod x16 x_2))) - x11)) ∧ (IntKind.wrap .i64 ((IntKind.wrap .i64 ((IntKind.wrap .i64 ((IntKind.wrap .i64 (Int.tdiv x16 x_3)) * (IntKind.wrap .i64 (x_5 - x11)))) + (Int.tmod x16 x_2))) - x11)) < (Int.ofNat s_4.2.1)
              then (Option.bind (intOf? .i64 (AMem.ld M a_6.block (a_6.off + ((Int.toNat (IntKind.wrap .i64 ((IntKind.wrap .i64 ((IntKind.wrap .i64 ((IntKind.wrap .i64 (Int.tdiv x16 x_3)) * (IntKind.wrap .i64 (x_5 - x11)))) + (Int.tmod x16 x_2))) - x11))) * 3)))) fun x_7 =>
                (Option.bind (intOf? .i64 (AMem.ld M a_6.block ((a_6.off + ((Int.toNat (IntKind.wrap .i64 ((IntKind.wrap .i64 ((IntKind.wrap .i64 ((IntKind.wrap .i64 (Int.tdiv x16 x_3)) * (IntKind.wrap .i64 (x_5 - x11)))) + (Int.tmod x16 x_2))) - x11))) * 3)) + 1))) fun x_8 =>
                (Option.bind (intOf? .i64 (AMem.ld M a_6.block ((a_6.off + ((Int.toNat (IntKind.wrap .i64 ((IntKind.wrap .i64 ((IntKind.wrap .i64 ((IntKind.wrap .i64 (Int.tdiv x16 x_3)) * (IntKind.wrap .i64 (x_5 - x11)))) + (Int.tmod x16 x_2))) - x11))) * 3)) + 2))) fun x_9 =>
                (Option.bind (sliceOf? (AMem.ld M x2 2)) fun s_10 =>
                (match s_10.1 with
                | some a_11 => (if (0 : Int) ≤ x16 ∧ x16 < (Int.ofNat s_10.2.1)
                  then (Option.bind (intOf? .i64 (AMem.ld M a_11.block (a_11.off + ((Int.toNat x16) * 3)))) fun x_12 =>
                    (Option.bind (intOf? .i64 (AMem.ld M a_11.block ((a_11.off + ((Int.toNat x16) * 3)) + 1))) fun x_13 =>
                    (Option.bind (intOf? .i64 (AMem.ld M a_11.block ((a_11.off + ((Int.toNat x16) * 3)) + 2))) fun x_14 =>
                    (if (!((x_7 == x_12) && ((x_8 == x_13) && (x_9 == x_14)))) = true
                    then P3_96 L x2 x11 x12 x14 x16 true M
                    else (if (decide ((Int.tmod x16 x_2) < x11)) = true
                      then (Option.bind (sliceOf? (AMem.ld M x14 2)) fun s_15 =>
                        (match s_15.1 with
                        | some a_16 => (if (0 : Int) ≤ (IntKind.wrap .i64 ((IntKind.wrap .i64 ((IntKind.wrap .i64 (Int.tdiv x16 x_3)) * x11)) + (Int.tmod x16 x_2))) ∧ (IntKind.wrap .i64 ((IntKind.wrap .i64 ((IntKind.wrap .i64 (Int.tdiv x16 x_3)) * x11)) + (Int.tmod x16 x_2))) < (Int.ofNat s_15.2.1)
                          then (Option.bind (intOf? .i64 (AMem.ld M a_16.block (a_16.off + ((Int.toNat (IntKind.wrap .i64 ((IntKind.wrap .i64 ((IntKind.wrap .i64 (Int.tdiv x16 x_3)) * x11)) + (Int.tmod x16 x_2)))) * 3)))) fun x_17 =>
                            (Option.bind (intOf? .i64 (AMem.ld M a_16.block ((a_16.off + ((Int.toNat (IntKind.wrap .i64 ((IntKind.wrap .i64 ((IntKind.wrap .i64 (Int.tdiv x16 x_3)) * x11)) + (Int.tmod x16 x_2)))) * 3)) + 1))) fun x_18 =>
                            (Option.bind (intOf? .i64 (AMem.ld M a_16.block ((a_16.off + ((Int.toNat (IntKind.wrap .i64 ((IntKind.wrap .i64 ((IntKind.wrap .i64 (Int.tdiv x16 x_3)) * x11)) + (Int.tmod x16 x_2)))) * 3)) + 2))) fun x_19 =>
                            (Option.bind (sliceOf? (AMem.ld M x2 2)) fun s_20 =>
                            (match s_20.1 with
                            | some a_21 => (if (0 : Int) ≤ x16 ∧ x16 < (Int.ofNat s_20.2.1)
                              then (Option.bind (intOf? .i64 (AMem.ld M a_21.block (a_21.off + ((Int.toNat x16) * 3)))) fun x_22 =>
                                (Option.bind (intOf? .i64 (AMem.ld M a_21.block ((a_21.off + ((Int.toNat x16) * 3)) + 1))) fun x_23 =>
                                (Option.bind (intOf? .i64 (AMem.ld M a_21.block ((a_21.off + ((Int.toNat x16) * 3)) + 2))) fun x_24 =>
                                P3_96 L x2 x11 x12 x14 x16 (!((x_17 == x_22) && ((x_18 == x_23) && (x_19 == x_24)))) M)))
                              else none)
                            | none => none)))))
                          else none)
                        | none => none))
                      else P3_96 L x2 x11 x12 x14 x16 false M)))))
                  else none)
                | none => none)))))
              else none)
            | none => none)))
          else (if (decide ((Int.tmod x16 x_2) < x11)) = true
            then (Option.bind (sliceOf? (AMem.ld M x14 2)) fun s_25 =>
              (match s_25.1 with
              | some a_26 => (if (0 : Int) ≤ (IntKind.wrap .i64 ((IntKind.wrap .i64 ((IntKind.wrap .i64 (Int.tdiv x16 x_3)) * x11)) + (Int.tmod x16 x_2))) ∧ (IntKind.wrap .i64 ((IntKind.wrap .i64 ((IntKind.wrap .i64 (Int.tdiv x16 x_3)) * x11)) + (Int.tmod x16 x_2))) < (Int.ofNat s_25.2.1)
                then (Option.bind (intOf? .i64 (AMem.ld M a_26.block (a_26.off + ((Int.toNat (IntKind.wrap .i64 ((IntKind.wrap .i64 ((IntKind.wrap .i64 (Int.tdiv x16 x_3)) * x11)) + (Int.tmod x16 x_2)))) * 3)))) fun x_27 =>
                  (Option.bind (intOf? .i64 (AMem.ld M a_26.block ((a_26.off + ((Int.toNat (IntKind.wrap .i64 ((IntKind.wrap .i64 ((IntKind.wrap .i64 (Int.tdiv x16 x_3)) * x11)) + (Int.tmod x16 x_2)))) * 3)) + 1))) fun x_28 =>
                  (Option.bind (intOf? .i64 (AMem.ld M a_26.block ((a_26.off + ((Int.toNat (IntKind.wrap .i64 ((IntKind.wrap .i64 ((IntKind.wrap .i64 (Int.tdiv x16 x_3)) * x11)) + (Int.tmod x16 x_2)))) * 3)) + 2))) fun x_29 =>
                  (Option.bind (sliceOf? (AMem.ld M x2 2)) fun s_30 =>
                  (match s_30.1 with
                  | some a_31 => (if (0 : Int) ≤ x16 ∧ x16 < (Int.ofNat s_30.2.1)
                    then (Option.bind (intOf? .i64 (AMem.ld M a_31.block (a_31.off + ((Int.toNat x16) * 3)))) fun x_32 =>
                      (Option.bind (intOf? .i64 (AMem.ld M a_31.block ((a_31.off + ((Int.toNat x16) * 3)) + 1))) fun x_33 =>
                      (Option.bind (intOf? .i64 (AMem.ld M a_31.block ((a_31.off + ((Int.toNat x16) * 3)) + 2))) fun x_34 =>
                      P3_96 L x2 x11 x12 x14 x16 (!((x_27 == x_32) && ((x_28 == x_33) && (x_29 == x_34)))) M)))
                    else none)
                  | none => none)))))
                else none)
              | none => none))
            else P3_96 L x2 x11 x12 x14 x16 false M))))))
    else P3_102 L M)) := QP3_83_eq L b3_83 c3_101 c3_102 c3_96 (hL b3_83) P3_83 (Classical.choose_spec XP3_83) P3_96 (Classical.choose_spec XP3_96) P3_102 (Classical.choose_spec XP3_102) x2 x11 x12 x14 x16 M
theorem QP3_63_eq (L : Rec) (b3_16 b3_47 c3_64 c3_65 : ACode) (P3_47 : Rec → Int → Nat → Nat → Int → Int → Int → Int → AMem → Res) (hP3_47 : P3_47 = fun (L : Rec) (x1 : Int) (x2 : Nat) (x5 : Nat) (x6 : Int) (x7 : Int) (x8 : Int) (x10 : Int) (M : AMem) => L.loop b3_47 (blockK 4 (blockK 1 (seqK (code L (.clear zl4 c3_64) (postK zl4 (loopK L b3_16 (blockK 0 (seqK (code L (.clear zl10 c3_65) (retK [.tmp 4])) (retK [.tmp 4])))))) (postK zl4 (loopK L b3_16 (blockK 0 (seqK (code L (.clear zl10 c3_65) (retK [.tmp 4])) (retK [.tmp 4])))))))) (s3_47 x1 x2 x5 x6 x7 x8 x10 M) M) (P3_63 : Rec → Int → Nat → Nat → Int → Int → Int → Int → AMem → Res) (hP3_63 : P3_63 = fun (L : Rec) (x1 : Int) (x2 : Nat) (x5 : Nat) (x6 : Int) (x7 : Int) (x8 : Int) (x10 : Int) (M : AMem) => code L (.ops o3_63) (postK zl2 (loopK L b3_47 (blockK 4 (blockK 1 (seqK (code L (.clear zl4 c3_64) (postK zl4 (loopK L b3_16 (blockK 0 (seqK (code L (.clear zl10 c3_65) (retK [.tmp 4])) (retK [.tmp 4])))))) (postK zl4 (loopK L b3_16 (blockK 0 (seqK (code L (.clear zl10 c3_65) (retK [.tmp 4])) (retK [.tmp 4])))))))))) (s3_63 x1 x2 x5 x6 x7 x8 x10 M) M) (x1 : Int) (x2 : Nat) (x5 : Nat) (x6 : Int) (x7 : Int) (x8 : Int) (x10 : Int) (M : AMem) : P3_63 L x1 x2 x5 x6 x7 x8 x10 M =
  P3_47 L x1 x2 x5 x6 x7 x8 (IntKind.wrap .i64 (x10 + 1)) M := by
  subst hP3_47; subst hP3_63; kernel_rfl
theorem P3_63_eq (L : Rec) (x1 : Int) (x2 : Nat) (x5 : Nat) (x6 : Int) (x7 : Int) (x8 : Int) (x10 : Int) (M : AMem) : P3_63 L x1 x2 x5 x6 x7 x8 x10 M =
  P3_47 L x1 x2 x5 x6 x7 x8 (IntKind.wrap .i64 (x10 + 1)) M := QP3_63_eq L b3_16 b3_47 c3_64 c3_65 P3_47 (Classical.choose_spec XP3_47) P3_63 (Classical.choose_spec XP3_63) x1 x2 x5 x6 x7 x8 x10 M
theorem QP3_64_eq (L : Rec) (b3_16 c3_65 : ACode) (P3_16 : Rec → Int → Nat → Nat → Int → AMem → Res) (hP3_16 : P3_16 = fun (L : Rec) (x1 : Int) (x2 : Nat) (x5 : Nat) (x6 : Int) (M : AMem) => L.loop b3_16 (blockK 0 (seqK (code L (.clear zl10 c3_65) (retK [.tmp 4])) (retK [.tmp 4]))) (s3_16 x1 x2 x5 x6 M) M) (P3_64 : Rec → Int → Nat → Nat → Int → AMem → Res) (hP3_64 : P3_64 = fun (L : Rec) (x1 : Int) (x2 : Nat) (x5 : Nat) (x6 : Int) (M : AMem) => code L (.ops o3_64) (postK zl4 (loopK L b3_16 (blockK 0 (seqK (code L (.clear zl10 c3_65) (retK [.tmp 4])) (retK [.tmp 4]))))) (s3_64 x1 x2 x5 x6 M) M) (x1 : Int) (x2 : Nat) (x5 : Nat) (x6 : Int) (M : AMem) : P3_64 L x1 x2 x5 x6 M =
  P3_16 L x1 x2 x5 (IntKind.wrap .i64 (x6 + 1)) M := by
  subst hP3_16; subst hP3_64; kernel_rfl
theorem P3_64_eq (L : Rec) (x1 : Int) (x2 : Nat) (x5 : Nat) (x6 : Int) (M : AMem) : P3_64 L x1 x2 x5 x6 M =
  P3_16 L x1 x2 x5 (IntKind.wrap .i64 (x6 + 1)) M := QP3_64_eq L b3_16 c3_65 P3_16 (Classical.choose_spec XP3_16) P3_64 (Classical.choose_spec XP3_64) x1 x2 x5 x6 M
theorem QP3_96_eq (L : Rec) (b3_83 c3_101 c3_102 : ACode) (P3_96 : Rec → Nat → Int → Nat → Nat → Int → Bool → AMem → Res) (hP3_96 : P3_96 = fun (L : Rec) (x2 : Nat) (x11 : Int) (x12 : Nat) (x14 : Nat) (x16 : Int) (x207 : Bool) (M : AMem) => code L (.cond (.tmp 207) (.seq (.ops o3_98) (.ret)) (.skip)) (blockK 7 (seqK (code L (.clear zl6 c3_101) (postK zl6 (loopK L b3_83 (blockK 6 (seqK (code L (.clear zl8 c3_102) (retK [.tmp 4])) (retK [.tmp 4])))))) (postK zl6 (loopK L b3_83 (blockK 6 (seqK (code L (.clear zl8 c3_102) (retK [.tmp 4])) (retK [.tmp 4]))))))) (s3_96 x2 x11 x12 x14 x16 x207 M) M) (P3_101 : Rec → Nat → Int → Nat → Nat → Int → AMem → Res) (hP3_101 : P3_101 = fun (L : Rec) (x2 : Nat) (x11 : Int) (x12 : Nat) (x14 : Nat) (x16 : Int) (M : AMem) => code L c3_101 (postK zl6 (loopK L b3_83 (blockK 6 (seqK (code L (.clear zl8 c3_102) (retK [.tmp 4])) (retK [.tmp 4]))))) (s3_101 x2 x11 x12 x14 x16 M) M) (x2 : Nat) (x11 : Int) (x12 : Nat) (x14 : Nat) (x16 : Int) (x207 : Bool) (M : AMem) : P3_96 L x2 x11 x12 x14 x16 x207 M =
  (if x207 = true
    then some (.bool false, M)
    else P3_101 L x2 x11 x12 x14 x16 M) := by
  subst hP3_96; subst hP3_101; kernel_rfl
theorem P3_96_eq (L : Rec) (x2 : Nat) (x11 : Int) (x12 : Nat) (x14 : Nat) (x16 : Int) (x207 : Bool) (M : AMem) : P3_96 L x2 x11 x12 x14 x16 x207 M =
  (if x207 = true
    then some (.bool false, M)
    else P3_101 L x2 x11 x12 x14 x16 M) := QP3_96_eq L b3_83 c3_101 c3_102 P3_96 (Classical.choose_spec XP3_96) P3_101 (Classical.choose_spec XP3_101) x2 x11 x12 x14 x16 x207 M
theorem QP3_102_eq (L : Rec) (P3_102 : Rec → AMem → Res) (hP3_102 : P3_102 = fun (L : Rec) (M : AMem) => code L (.seq (.ops o3_103) (.ret)) (retK [.tmp 4]) (s3_102 M) M) (M : AMem) : P3_102 L M =
  (Option.bind (L.call 7 [] []) fun r_1 =>
    (Option.bind (boolOf? (some r_1.1)) fun q_2 =>
    some (.bool q_2, M))) := by
  subst hP3_102; kernel_rfl
theorem P3_102_eq (L : Rec) (M : AMem) : P3_102 L M =
  (Option.bind (L.call 7 [] []) fun r_1 =>
    (Option.bind (boolOf? (some r_1.1)) fun q_2 =>
    some (.bool q_2, M))) := QP3_102_eq L P3_102 (Classical.choose_spec XP3_102) M
theorem QP3_101_eq (L : Rec) (b3_83 c3_102 : ACode) (P3_83 : Rec → Nat → Int → Nat → Nat → Int → AMem → Res) (hP3_83 : P3_83 = fun (L : Rec) (x2 : Nat) (x11 : Int) (x12 : Nat) (x14 : Nat) (x16 : Int) (M : AMem) => L.loop b3_83 (blockK 6 (seqK (code L (.clear zl8 c3_102) (retK [.tmp 4])) (retK [.tmp 4]))) (s3_83 x2 x11 x12 x14 x16 M) M) (P3_101 : Rec → Nat → Int → Nat → Nat → Int → AMem → Res) (hP3_101 : P3_101 = fun (L : Rec) (x2 : Nat) (x11 : Int) (x12 : Nat) (x14 : Nat) (x16 : Int) (M : AMem) => code L (.ops o3_101) (postK zl6 (loopK L b3_83 (blockK 6 (seqK (code L (.clear zl8 c3_102) (retK [.tmp 4])) (retK [.tmp 4]))))) (s3_101 x2 x11 x12 x14 x16 M) M) (x2 : Nat) (x11 : Int) (x12 : Nat) (x14 : Nat) (x16 : Int) (M : AMem) : P3_101 L x2 x11 x12 x14 x16 M =
  P3_83 L x2 x11 x12 x14 (IntKind.wrap .i64 (x16 + 1)) M := by
  subst hP3_83; subst hP3_101; kernel_rfl
theorem P3_101_eq (L : Rec) (x2 : Nat) (x11 : Int) (x12 : Nat) (x14 : Nat) (x16 : Int) (M : AMem) : P3_101 L x2 x11 x12 x14 x16 M =
  P3_83 L x2 x11 x12 x14 (IntKind.wrap .i64 (x16 + 1)) M := QP3_101_eq L b3_83 c3_102 P3_83 (Classical.choose_spec XP3_83) P3_101 (Classical.choose_spec XP3_101) x2 x11 x12 x14 x16 M
theorem QE3 (L : Rec) (b3_16 c3_65 : ACode) (P3_16 : Rec → Int → Nat → Nat → Int → AMem → Res) (hP3_16 : P3_16 = fun (L : Rec) (x1 : Int) (x2 : Nat) (x5 : Nat) (x6 : Int) (M : AMem) => L.loop b3_16 (blockK 0 (seqK (code L (.clear zl10 c3_65) (retK [.tmp 4])) (retK [.tmp 4]))) (s3_16 x1 x2 x5 x6 M) M) (x0_0 : Int) (x0_1 : Int) (x0_2 : Option Addr) (x0_2n : Nat) (x0_2c : Nat) (x1 : Int) (M : AMem) : enterF L ⟨209, [.tmp 4], .seq (.ops o3_1) (.seq (.seq (.ops o3_4) (.cond (.tmp 27) (.seq (.ops o3_7) (.ret)) (.skip))) (.seq (.ops o3_11) (.seq (.seq (.ops o3_14) (.block 0 (.clear zl4 (.loop b3_16)))) (.clear zl10 c3_65))))⟩ [.agg #[.int .i64 x0_0, .int .i64 x0_1, .slice x0_2 x0_2n x0_2c], .int .u8 x1] M =
  (Option.bind (intOf? .i64 (AMem.ld (M ++ [AObj.cells [.int .i64 x0_0, .int .i64 x0_1, .slice x0_2 x0_2n x0_2c] ⟨false, 0⟩]) (List.length M) 0)) fun x_1 =>
    (Option.bind (intOf? .i64 (AMem.ld (M ++ [AObj.cells [.int .i64 x0_0, .int .i64 x0_1, .slice x0_2 x0_2n x0_2c] ⟨false, 0⟩]) (List.length M) 1)) fun x_2 =>
    (Option.bind (sliceOf? (AMem.ld (M ++ [AObj.cells [.int .i64 x0_0, .int .i64 x0_1, .slice x0_2 x0_2n x0_2c] ⟨false, 0⟩]) (List.length M) 2)) fun s_3 =>
    (Option.bind (L.call 6 [.agg #[.int .i64 x_1, .int .i64 x_2, .slice s_3.1 s_3.2.1 s_3.2.2]] (M ++ [AObj.cells [.int .i64 x0_0, .int .i64 x0_1, .slice x0_2 x0_2n x0_2c] ⟨false, 0⟩])) fun r_4 =>
    (Option.bind (boolOf? (some r_4.1)) fun q_5 =>
    (if (!q_5) = true
    then (Option.bind (L.call 7 [] []) fun r_6 =>
      (Option.bind (boolOf? (some r_6.1)) fun q_7 =>
      some (.bool q_7, r_4.2)))
    else (Option.bind (sliceOf? (AMem.ld r_4.2 (List.length M) 2)) fun s_8 =>
      (if (decide ((Int.ofNat s_8.2.1) > 40)) = true
      then (Option.bind (L.call 7 [] []) fun r_9 =>
        (Option.bind (boolOf? (some r_9.1)) fun q_10 =>
        some (.bool q_10, r_4.2)))
      else (Option.bind (intOf? .i64 (AMem.ld r_4.2 (List.length M) 0)) fun x_11 =>
        (Option.bind (intOf? .i64 (AMem.ld r_4.2 (List.length M) 1)) fun x_12 =>
        (Option.bind (sliceOf? (AMem.ld r_4.2 (List.length M) 2)) fun s_13 =>
        (Option.bind (L.call 9 [.agg #[.int .i64 x_11, .int .i64 x_12, .slice s_13.1 s_13.2.1 s_13.2.2]] r_4.2) fun r_14 =>
        (Option.bind (aggOf? 3 r_14.1) fun cs_15 =>
        (Option.bind (intOf? .i64 (cs_15[0]?)) fun x_16 =>
        (Option.bind (intOf? .i64 (cs_15[1]?)) fun x_17 =>
        (Option.bind (sliceOf? (cs_15[2]?)) fun s_18 =>
        (Option.bind (L.call 8 [.agg #[.int .i64 x_16, .int .i64 x_17, .slice s_18.1 s_18.2.1 s_18.2.2]] r_14.2) fun r_19 =>
        (Option.bind (aggOf? 3 r_19.1) fun cs_20 =>
        (Option.bind (intOf? .i64 (cs_20[0]?)) fun x_21 =>
        (Option.bind (intOf? .i64 (cs_20[1]?)) fun x_22 =>
        (Option.bind (sliceOf? (cs_20[2]?)) fun s_23 =>
        (Option.bind (AMem.wr (r_19.2 ++ [AObj.cells [.int .i64 0, .int .i64 0, .slice none 0 0] ⟨false, 0⟩]) (List.length r_19.2) 0 [.int .i64 x_21, .int .i64 x_22, .slice s_23.1 s_23.2.1 s_23.2.2]) fun M_24 =>
        P3_16 L x1 (List.length M) (List.length r_19.2) 0 M_24)))))))))))))))))))))) := by
  subst hP3_16; kernel_rfl
theorem E3 (L : Rec) (x0_0 : Int) (x0_1 : Int) (x0_2 : Option Addr) (x0_2n : Nat) (x0_2c : Nat) (x1 : Int) (M : AMem) : enterF L a3 [.agg #[.int .i64 x0_0, .int .i64 x0_1, .slice x0_2 x0_2n x0_2c], .int .u8 x1] M =
  (Option.bind (intOf? .i64 (AMem.ld (M ++ [AObj.cells [.int .i64 x0_0, .int .i64 x0_1, .slice x0_2 x0_2n x0_2c] ⟨false, 0⟩]) (List.length M) 0)) fun x_1 =>
    (Option.bind (intOf? .i64 (AMem.ld (M ++ [AObj.cells [.int .i64 x0_0, .int .i64 x0_1, .slice x0_2 x0_2n x0_2c] ⟨false, 0⟩]) (List.length M) 1)) fun x_2 =>
    (Option.bind (sliceOf? (AMem.ld (M ++ [AObj.cells [.int .i64 x0_0, .int .i64 x0_1, .slice x0_2 x0_2n x0_2c] ⟨false, 0⟩]) (List.length M) 2)) fun s_3 =>
    (Option.bind (L.call 6 [.agg #[.int .i64 x_1, .int .i64 x_2, .slice s_3.1 s_3.2.1 s_3.2.2]] (M ++ [AObj.cells [.int .i64 x0_0, .int .i64 x0_1, .slice x0_2 x0_2n x0_2c] ⟨false, 0⟩])) fun r_4 =>
    (Option.bind (boolOf? (some r_4.1)) fun q_5 =>
    (if (!q_5) = true
    then (Option.bind (L.call 7 [] []) fun r_6 =>
      (Option.bind (boolOf? (some r_6.1)) fun q_7 =>
      some (.bool q_7, r_4.2)))
    else (Option.bind (sliceOf? (AMem.ld r_4.2 (List.length M) 2)) fun s_8 =>
      (if (decide ((Int.ofNat s_8.2.1) > 40)) = true
      then (Option.bind (L.call 7 [] []) fun r_9 =>
        (Option.bind (boolOf? (some r_9.1)) fun q_10 =>
        some (.bool q_10, r_4.2)))
      else (Option.bind (intOf? .i64 (AMem.ld r_4.2 (List.length M) 0)) fun x_11 =>
        (Option.bind (intOf? .i64 (AMem.ld r_4.2 (List.length M) 1)) fun x_12 =>
        (Option.bind (sliceOf? (AMem.ld r_4.2 (List.length M) 2)) fun s_13 =>
        (Option.bind (L.call 9 [.agg #[.int .i64 x_11, .int .i64 x_12, .slice s_13.1 s_13.2.1 s_13.2.2]] r_4.2) fun r_14 =>
        (Option.bind (aggOf? 3 r_14.1) fun cs_15 =>
        (Option.bind (intOf? .i64 (cs_15[0]?)) fun x_16 =>
        (Option.bind (intOf? .i64 (cs_15[1]?)) fun x_17 =>
        (Option.bind (sliceOf? (cs_15[2]?)) fun s_18 =>
        (Option.bind (L.call 8 [.agg #[.int .i64 x_16, .int .i64 x_17, .slice s_18.1 s_18.2.1 s_18.2.2]] r_14.2) fun r_19 =>
        (Option.bind (aggOf? 3 r_19.1) fun cs_20 =>
        (Option.bind (intOf? .i64 (cs_20[0]?)) fun x_21 =>
        (Option.bind (intOf? .i64 (cs_20[1]?)) fun x_22 =>
        (Option.bind (sliceOf? (cs_20[2]?)) fun s_23 =>
        (Option.bind (AMem.wr (r_19.2 ++ [AObj.cells [.int .i64 0, .int .i64 0, .slice none 0 0] ⟨false, 0⟩]) (List.length r_19.2) 0 [.int .i64 x_21, .int .i64 x_22, .slice s_23.1 s_23.2.1 s_23.2.2]) fun M_24 =>
        P3_16 L x1 (List.length M) (List.length r_19.2) 0 M_24)))))))))))))))))))))) := QE3 L b3_16 c3_65 P3_16 (Classical.choose_spec XP3_16) x0_0 x0_1 x0_2 x0_2n x0_2c x1 M
end Go.Proofs.Ytncfdkmhpnopiaa
