/- What the pieces of some functions come to. -/
import Derived.Test.YtmpgngilhhmlcaaCode
set_option linter.unusedVariables false
set_option maxRecDepth 100000
namespace Go.Proofs.Ytmpgngilhhmlcaa
open Go Go.Ax
/-! #### skylightlaw33.FlushLost -/
noncomputable def k4_17 (L : Rec) : KT := seqK (code L (.seq (.ops o4_23) (.seq (.seq (.ops o4_26) (.block 0 (.clear zl10 (.loop b4_28)))) (.clear zl15 c4_71))) (retK [.tmp 6])) (retK [.tmp 6])
def s4_17 (x1 : Option Addr) (x1n : Nat) (x1c : Nat) (x2 : Option Addr) (x2n : Nat) (x2c : Nat) (x3 : Nat) (x7 : Option Addr) (x8 : Option Addr) (x8n : Nat) (x8c : Nat) (x49 : Bool) (M : AMem) : List Value := [junk, .slice x1 x1n x1c, .slice x2 x2n x2c, .pointer (some ⟨x3, 0, none⟩), junk, junk, junk, .pointer x7, .slice x8 x8n x8c, junk, junk, junk, junk, junk, junk, junk, junk, junk, junk, junk, junk, junk, junk, junk, junk, junk, junk, junk, junk, junk, junk, junk, junk, junk, junk, junk, junk, junk, junk, junk, junk, junk, junk, junk, junk, junk, junk, junk, junk, .bool x49, junk, junk, junk, junk, junk, junk, junk, junk, junk, junk, junk, junk, junk, junk, junk, junk, junk, junk, junk, junk, junk, junk, junk, junk, junk, junk, junk, junk, junk, junk, junk, junk, junk, junk, junk, junk, junk, junk, junk, junk, junk, junk, junk, junk, junk, junk, junk, junk, junk, junk, junk, junk, junk, junk, junk, junk, junk, junk, junk, junk, junk, junk, junk, junk, junk, junk, junk, junk, junk, junk, junk, junk, junk, junk, junk, junk, junk, junk, junk, junk, junk, junk, junk, junk, junk, junk, junk, junk, junk, junk, junk, junk, junk, junk, junk, junk, junk, junk, junk, junk, junk, junk, junk, junk, junk, junk, junk, junk, junk, junk, junk, junk, junk]
theorem XP4_17 : ∃ P : Rec → (Option Addr) → Nat → Nat → (Option Addr) → Nat → Nat → Nat → (Option Addr) → (Option Addr) → Nat → Nat → Bool → AMem → Res, P = fun (L : Rec) (x1 : Option Addr) (x1n : Nat) (x1c : Nat) (x2 : Option Addr) (x2n : Nat) (x2c : Nat) (x3 : Nat) (x7 : Option Addr) (x8 : Option Addr) (x8n : Nat) (x8c : Nat) (x49 : Bool) (M : AMem) => code L c4_17 (k4_17 L) (s4_17 x1 x1n x1c x2 x2n x2c x3 x7 x8 x8n x8c x49 M) M := ⟨_, rfl⟩
noncomputable def P4_17 : Rec → (Option Addr) → Nat → Nat → (Option Addr) → Nat → Nat → Nat → (Option Addr) → (Option Addr) → Nat → Nat → Bool → AMem → Res := Classical.choose XP4_17
noncomputable def k4_28 (L : Rec) : KT := blockK 0 (seqK (code L (.clear zl15 c4_71) (retK [.tmp 6])) (retK [.tmp 6]))
def s4_28 (x1 : Option Addr) (x1n : Nat) (x1c : Nat) (x2 : Option Addr) (x2n : Nat) (x2c : Nat) (x3 : Nat) (x7 : Option Addr) (x8 : Option Addr) (x8n : Nat) (x8c : Nat) (x9 : Int) (x10 : Int) (x11 : Int) (M : AMem) : List Value := [junk, .slice x1 x1n x1c, .slice x2 x2n x2c, .pointer (some ⟨x3, 0, none⟩), junk, junk, junk, .pointer x7, .slice x8 x8n x8c, .int .i64 x9, .int .i64 x10, .int .i64 x11, junk, junk, junk, junk, junk, junk, junk, junk, junk, junk, junk, junk, junk, junk, junk, junk, junk, junk, junk, junk, junk, junk, junk, junk, junk, junk, junk, junk, junk, junk, junk, junk, junk, junk, junk, junk, junk, junk, junk, junk, junk, junk, junk, junk, junk, junk, junk, junk, junk, junk, junk, junk, junk, junk, junk, junk, junk, junk, junk, junk, junk, junk, junk, junk, junk, junk, junk, junk, junk, junk, junk, junk, junk, junk, junk, junk, junk, junk, junk, junk, junk, junk, junk, junk, junk, junk, junk, junk, junk, junk, junk, junk, junk, junk, junk, junk, junk, junk, junk, junk, junk, junk, junk, junk, junk, junk, junk, junk, junk, junk, junk, junk, junk, junk, junk, junk, junk, junk, junk, junk, junk, junk, junk, junk, junk, junk, junk, junk, junk, junk, junk, junk, junk, junk, junk, junk, junk, junk, junk, junk, junk, junk, junk, junk, junk, junk, junk, junk, junk, junk, junk]
theorem XP4_28 : ∃ P : Rec → (Option Addr) → Nat → Nat → (Option Addr) → Nat → Nat → Nat → (Option Addr) → (Option Addr) → Nat → Nat → Int → Int → Int → AMem → Res, P = fun (L : Rec) (x1 : Option Addr) (x1n : Nat) (x1c : Nat) (x2 : Option Addr) (x2n : Nat) (x2c : Nat) (x3 : Nat) (x7 : Option Addr) (x8 : Option Addr) (x8n : Nat) (x8c : Nat) (x9 : Int) (x10 : Int) (x11 : Int) (M : AMem) => L.loop b4_28 (k4_28 L) (s4_28 x1 x1n x1c x2 x2n x2c x3 x7 x8 x8n x8c x9 x10 x11 M) M := ⟨_, rfl⟩
noncomputable def P4_28 : Rec → (Option Addr) → Nat → Nat → (Option Addr) → Nat → Nat → Nat → (Option Addr) → (Option Addr) → Nat → Nat → Int → Int → Int → AMem → Res := Classical.choose XP4_28
noncomputable def k4_48 (L : Rec) : KT := seqK (code L (.exit 1) (seqK (code L (.seq (.ops o4_56) (.seq (.ops o4_58) (.cond (.tmp 93) (.seq (.ops o4_61) (.seq (.ops o4_63) (.cond (.tmp 99) (.seq (.ops o4_66) (.ret)) (.skip)))) (.skip)))) (blockK 1 (seqK (code L (.clear zl10 c4_70) (postK zl10 (loopK L b4_28 (blockK 0 (seqK (code L (.clear zl15 c4_71) (retK [.tmp 6])) (retK [.tmp 6])))))) (postK zl10 (loopK L b4_28 (blockK 0 (seqK (code L (.clear zl15 c4_71) (retK [.tmp 6])) (retK [.tmp 6])))))))) (blockK 1 (seqK (code L (.clear zl10 c4_70) (postK zl10 (loopK L b4_28 (blockK 0 (seqK (code L (.clear zl15 c4_71) (retK [.tmp 6])) (retK [.tmp 6])))))) (postK zl10 (loopK L b4_28 (blockK 0 (seqK (code L (.clear zl15 c4_71) (retK [.tmp 6])) (retK [.tmp 6]))))))))) (seqK (code L (.seq (.ops o4_56) (.seq (.ops o4_58) (.cond (.tmp 93) (.seq (.ops o4_61) (.seq (.ops o4_63) (.cond (.tmp 99) (.seq (.ops o4_66) (.ret)) (.skip)))) (.skip)))) (blockK 1 (seqK (code L (.clear zl10 c4_70) (postK zl10 (loopK L b4_28 (blockK 0 (seqK (code L (.clear zl15 c4_71) (retK [.tmp 6])) (retK [.tmp 6])))))) (postK zl10 (loopK L b4_28 (blockK 0 (seqK (code L (.clear zl15 c4_71) (retK [.tmp 6])) (retK [.tmp 6])))))))) (blockK 1 (seqK (code L (.clear zl10 c4_70) (postK zl10 (loopK L b4_28 (blockK 0 (seqK (code L (.clear zl15 c4_71) (retK [.tmp 6])) (retK [.tmp 6])))))) (postK zl10 (loopK L b4_28 (blockK 0 (seqK (code L (.clear zl15 c4_71) (retK [.tmp 6])) (retK [.tmp 6]))))))))
def s4_48 (x1 : Option Addr) (x1n : Nat) (x1c : Nat) (x2 : Option Addr) (x2n : Nat) (x2c : Nat) (x3 : Nat) (x7 : Option Addr) (x8 : Option Addr) (x8n : Nat) (x8c : Nat) (x9 : Int) (x10 : Int) (x11 : Int) (x84 : Bool) (M : AMem) : List Value := [junk, .slice x1 x1n x1c, .slice x2 x2n x2c, .pointer (some ⟨x3, 0, none⟩), junk, junk, junk, .pointer x7, .slice x8 x8n x8c, .int .i64 x9, .int .i64 x10, .int .i64 x11, junk, junk, junk, junk, junk, junk, junk, junk, junk, junk, junk, junk, junk, junk, junk, junk, junk, junk, junk, junk, junk, junk, junk, junk, junk, junk, junk, junk, junk, junk, junk, junk, junk, junk, junk, junk, junk, junk, junk, junk, junk, junk, junk, junk, junk, junk, junk, junk, junk, junk, junk, junk, junk, junk, junk, junk, junk, junk, junk, junk, junk, junk, junk, junk, junk, junk, junk, junk, junk, junk, junk, junk, .bool x84, junk, junk, junk, junk, junk, junk, junk, junk, junk, junk, junk, junk, junk, junk, junk, junk, junk, junk, junk, junk, junk, junk, junk, junk, junk, junk, junk, junk, junk, junk, junk, junk, junk, junk, junk, junk, junk, junk, junk, junk, junk, junk, junk, junk, junk, junk, junk, junk, junk, junk, junk, junk, junk, junk, junk, junk, junk, junk, junk, junk, junk, junk, junk, junk, junk, junk, junk, junk, junk, junk, junk, junk, junk, junk, junk, junk, junk, junk]
theorem XP4_48 : ∃ P : Rec → (Option Addr) → Nat → Nat → (Option Addr) → Nat → Nat → Nat → (Option Addr) → (Option Addr) → Nat → Nat → Int → Int → Int → Bool → AMem → Res, P = fun (L : Rec) (x1 : Option Addr) (x1n : Nat) (x1c : Nat) (x2 : Option Addr) (x2n : Nat) (x2c : Nat) (x3 : Nat) (x7 : Option Addr) (x8 : Option Addr) (x8n : Nat) (x8c : Nat) (x9 : Int) (x10 : Int) (x11 : Int) (x84 : Bool) (M : AMem) => code L c4_48 (k4_48 L) (s4_48 x1 x1n x1c x2 x2n x2c x3 x7 x8 x8n x8c x9 x10 x11 x84 M) M := ⟨_, rfl⟩
noncomputable def P4_48 : Rec → (Option Addr) → Nat → Nat → (Option Addr) → Nat → Nat → Nat → (Option Addr) → (Option Addr) → Nat → Nat → Int → Int → Int → Bool → AMem → Res := Classical.choose XP4_48
noncomputable def k4_70 (L : Rec) : KT := postK zl10 (loopK L b4_28 (blockK 0 (seqK (code L (.clear zl15 c4_71) (retK [.tmp 6])) (retK [.tmp 6]))))
def s4_70 (x1 : Option Addr) (x1n : Nat) (x1c : Nat) (x2 : Option Addr) (x2n : Nat) (x2c : Nat) (x3 : Nat) (x7 : Option Addr) (x8 : Option Addr) (x8n : Nat) (x8c : Nat) (x9 : Int) (x10 : Int) (x11 : Int) (M : AMem) : List Value := [junk, .slice x1 x1n x1c, .slice x2 x2n x2c, .pointer (some ⟨x3, 0, none⟩), junk, junk, junk, .pointer x7, .slice x8 x8n x8c, .int .i64 x9, .int .i64 x10, .int .i64 x11, junk, junk, junk, junk, junk, junk, junk, junk, junk, junk, junk, junk, junk, junk, junk, junk, junk, junk, junk, junk, junk, junk, junk, junk, junk, junk, junk, junk, junk, junk, junk, junk, junk, junk, junk, junk, junk, junk, junk, junk, junk, junk, junk, junk, junk, junk, junk, junk, junk, junk, junk, junk, junk, junk, junk, junk, junk, junk, junk, junk, junk, junk, junk, junk, junk, junk, junk, junk, junk, junk, junk, junk, junk, junk, junk, junk, junk, junk, junk, junk, junk, junk, junk, junk, junk, junk, junk, junk, junk, junk, junk, junk, junk, junk, junk, junk, junk, junk, junk, junk, junk, junk, junk, junk, junk, junk, junk, junk, junk, junk, junk, junk, junk, junk, junk, junk, junk, junk, junk, junk, junk, junk, junk, junk, junk, junk, junk, junk, junk, junk, junk, junk, junk, junk, junk, junk, junk, junk, junk, junk, junk, junk, junk, junk, junk, junk, junk, junk, junk, junk, junk]
theorem XP4_70 : ∃ P : Rec → (Option Addr) → Nat → Nat → (Option Addr) → Nat → Nat → Nat → (Option Addr) → (Option Addr) → Nat → Nat → Int → Int → Int → AMem → Res, P = fun (L : Rec) (x1 : Option Addr) (x1n : Nat) (x1c : Nat) (x2 : Option Addr) (x2n : Nat) (x2c : Nat) (x3 : Nat) (x7 : Option Addr) (x8 : Option Addr) (x8n : Nat) (x8c : Nat) (x9 : Int) (x10 : Int) (x11 : Int) (M : AMem) => code L c4_70 (k4_70 L) (s4_70 x1 x1n x1c x2 x2n x2c x3 x7 x8 x8n x8c x9 x10 x11 M) M := ⟨_, rfl⟩
noncomputable def P4_70 : Rec → (Option Addr) → Nat → Nat → (Option Addr) → Nat → Nat → Nat → (Option Addr) → (Option Addr) → Nat → Nat → Int → Int → Int → AMem → Res := Classical.choose XP4_70
noncomputable def k4_71 (L : Rec) : KT := retK [.tmp 6]
def s4_71 (x1 : Option Addr) (x1n : Nat) (x1c : Nat) (x3 : Nat) (x7 : Option Addr) (x8 : Option Addr) (x8n : Nat) (x8c : Nat) (x9 : Int) (x10 : Int) (M : AMem) : List Value := [junk, .slice x1 x1n x1c, junk, .pointer (some ⟨x3, 0, none⟩), junk, junk, junk, .pointer x7, .slice x8 x8n x8c, .int .i64 x9, .int .i64 x10, junk, junk, junk, junk, junk, junk, junk, junk, junk, junk, junk, junk, junk, junk, junk, junk, junk, junk, junk, junk, junk, junk, junk, junk, junk, junk, junk, junk, junk, junk, junk, junk, junk, junk, junk, junk, junk, junk, junk, junk, junk, junk, junk, junk, junk, junk, junk, junk, junk, junk, junk, junk, junk, junk, junk, junk, junk, junk, junk, junk, junk, junk, junk, junk, junk, junk, junk, junk, junk, junk, junk, junk, junk, junk, junk, junk, junk, junk, junk, junk, junk, junk, junk, junk, junk, junk, junk, junk, junk, junk, junk, junk, junk, junk, junk, junk, junk, junk, junk, junk, junk, junk, junk, junk, junk, junk, junk, junk, junk, junk, junk, junk, junk, junk, junk, junk, junk, junk, junk, junk, junk, junk, junk, junk, junk, junk, junk, junk, junk, junk, junk, junk, junk, junk, junk, junk, junk, junk, junk, junk, junk, junk, junk, junk, junk, junk, junk, junk, junk, junk, junk, junk]
theorem XP4_71 : ∃ P : Rec → (Option Addr) → Nat → Nat → Nat → (Option Addr) → (Option Addr) → Nat → Nat → Int → Int → AMem → Res, P = fun (L : Rec) (x1 : Option Addr) (x1n : Nat) (x1c : Nat) (x3 : Nat) (x7 : Option Addr) (x8 : Option Addr) (x8n : Nat) (x8c : Nat) (x9 : Int) (x10 : Int) (M : AMem) => code L c4_71 (k4_71 L) (s4_71 x1 x1n x1c x3 x7 x8 x8n x8c x9 x10 M) M := ⟨_, rfl⟩
noncomputable def P4_71 : Rec → (Option Addr) → Nat → Nat → Nat → (Option Addr) → (Option Addr) → Nat → Nat → Int → Int → AMem → Res := Classical.choose XP4_71
noncomputable def k4_81 (L : Rec) : KT := retK [.tmp 6]
def s4_81 (x1 : Option Addr) (x1n : Nat) (x1c : Nat) (x7 : Option Addr) (x15 : Option Addr) (M : AMem) : List Value := [junk, .slice x1 x1n x1c, junk, junk, junk, junk, junk, .pointer x7, junk, junk, junk, junk, junk, junk, junk, .pointer x15, junk, junk, junk, junk, junk, junk, junk, junk, junk, junk, junk, junk, junk, junk, junk, junk, junk, junk, junk, junk, junk, junk, junk, junk, junk, junk, junk, junk, junk, junk, junk, junk, junk, junk, junk, junk, junk, junk, junk, junk, junk, junk, junk, junk, junk, junk, junk, junk, junk, junk, junk, junk, junk, junk, junk, junk, junk, junk, junk, junk, junk, junk, junk, junk, junk, junk, junk, junk, junk, junk, junk, junk, junk, junk, junk, junk, junk, junk, junk, junk, junk, junk, junk, junk, junk, junk, junk, junk, junk, junk, junk, junk, junk, junk, junk, junk, junk, junk, junk, junk, junk, junk, junk, junk, junk, junk, junk, junk, junk, junk, junk, junk, junk, junk, junk, junk, junk, junk, junk, junk, junk, junk, junk, junk, junk, junk, junk, junk, junk, junk, junk, junk, junk, junk, junk, junk, junk, junk, junk, junk, junk, junk, junk, junk, junk, junk, junk]
theorem XP4_81 : ∃ P : Rec → (Option Addr) → Nat → Nat → (Option Addr) → (Option Addr) → AMem → Res, P = fun (L : Rec) (x1 : Option Addr) (x1n : Nat) (x1c : Nat) (x7 : Option Addr) (x15 : Option Addr) (M : AMem) => code L c4_81 (k4_81 L) (s4_81 x1 x1n x1c x7 x15 M) M := ⟨_, rfl⟩
noncomputable def P4_81 : Rec → (Option Addr) → Nat → Nat → (Option Addr) → (Option Addr) → AMem → Res := Classical.choose XP4_81
noncomputable def k4_85 (L : Rec) : KT := blockK 2 (seqK (code L (.clear zl12 c4_94) (retK [.tmp 6])) (retK [.tmp 6]))
def s4_85 (x1 : Option Addr) (x1n : Nat) (x1c : Nat) (x7 : Option Addr) (x15 : Option Addr) (x16 : Int) (M : AMem) : List Value := [junk, .slice x1 x1n x1c, junk, junk, junk, junk, junk, .pointer x7, junk, junk, junk, junk, junk, junk, junk, .pointer x15, .int .i64 x16, junk, junk, junk, junk, junk, junk, junk, junk, junk, junk, junk, junk, junk, junk, junk, junk, junk, junk, junk, junk, junk, junk, junk, junk, junk, junk, junk, junk, junk, junk, junk, junk, junk, junk, junk, junk, junk, junk, junk, junk, junk, junk, junk, junk, junk, junk, junk, junk, junk, junk, junk, junk, junk, junk, junk, junk, junk, junk, junk, junk, junk, junk, junk, junk, junk, junk, junk, junk, junk, junk, junk, junk, junk, junk, junk, junk, junk, junk, junk, junk, junk, junk, junk, junk, junk, junk, junk, junk, junk, junk, junk, junk, junk, junk, junk, junk, junk, junk, junk, junk, junk, junk, junk, junk, junk, junk, junk, junk, junk, junk, junk, junk, junk, junk, junk, junk, junk, junk, junk, junk, junk, junk, junk, junk, junk, junk, junk, junk, junk, junk, junk, junk, junk, junk, junk, junk, junk, junk, junk, junk, junk, junk, junk, junk, junk, junk]
theorem XP4_85 : ∃ P : Rec → (Option Addr) → Nat → Nat → (Option Addr) → (Option Addr) → Int → AMem → Res, P = fun (L : Rec) (x1 : Option Addr) (x1n : Nat) (x1c : Nat) (x7 : Option Addr) (x15 : Option Addr) (x16 : Int) (M : AMem) => L.loop b4_85 (k4_85 L) (s4_85 x1 x1n x1c x7 x15 x16 M) M := ⟨_, rfl⟩
noncomputable def P4_85 : Rec → (Option Addr) → Nat → Nat → (Option Addr) → (Option Addr) → Int → AMem → Res := Classical.choose XP4_85
noncomputable def k4_94 (L : Rec) : KT := retK [.tmp 6]
def s4_94 (x1 : Option Addr) (x1n : Nat) (x1c : Nat) (x15 : Option Addr) (x16 : Int) (M : AMem) : List Value := [junk, .slice x1 x1n x1c, junk, junk, junk, junk, junk, junk, junk, junk, junk, junk, junk, junk, junk, .pointer x15, .int .i64 x16, junk, junk, junk, junk, junk, junk, junk, junk, junk, junk, junk, junk, junk, junk, junk, junk, junk, junk, junk, junk, junk, junk, junk, junk, junk, junk, junk, junk, junk, junk, junk, junk, junk, junk, junk, junk, junk, junk, junk, junk, junk, junk, junk, junk, junk, junk, junk, junk, junk, junk, junk, junk, junk, junk, junk, junk, junk, junk, junk, junk, junk, junk, junk, junk, junk, junk, junk, junk, junk, junk, junk, junk, junk, junk, junk, junk, junk, junk, junk, junk, junk, junk, junk, junk, junk, junk, junk, junk, junk, junk, junk, junk, junk, junk, junk, junk, junk, junk, junk, junk, junk, junk, junk, junk, junk, junk, junk, junk, junk, junk, junk, junk, junk, junk, junk, junk, junk, junk, junk, junk, junk, junk, junk, junk, junk, junk, junk, junk, junk, junk, junk, junk, junk, junk, junk, junk, junk, junk, junk, junk, junk, junk, junk, junk, junk, junk]
theorem XP4_94 : ∃ P : Rec → (Option Addr) → Nat → Nat → (Option Addr) → Int → AMem → Res, P = fun (L : Rec) (x1 : Option Addr) (x1n : Nat) (x1c : Nat) (x15 : Option Addr) (x16 : Int) (M : AMem) => code L c4_94 (k4_94 L) (s4_94 x1 x1n x1c x15 x16 M) M := ⟨_, rfl⟩
noncomputable def P4_94 : Rec → (Option Addr) → Nat → Nat → (Option Addr) → Int → AMem → Res := Classical.choose XP4_94
theorem QP4_17_eq (L : Rec) (b4_28 c4_71 : ACode) (P4_17 : Rec → (Option Addr) → Nat → Nat → (Option Addr) → Nat → Nat → Nat → (Option Addr) → (Option Addr) → Nat → Nat → Bool → AMem → Res) (hP4_17 : P4_17 = fun (L : Rec) (x1 : Option Addr) (x1n : Nat) (x1c : Nat) (x2 : Option Addr) (x2n : Nat) (x2c : Nat) (x3 : Nat) (x7 : Option Addr) (x8 : Option Addr) (x8n : Nat) (x8c : Nat) (x49 : Bool) (M : AMem) => code L (.cond (.tmp 49) (.seq (.ops o4_19) (.ret)) (.skip)) (seqK (code L (.seq (.ops o4_23) (.seq (.seq (.ops o4_26) (.block 0 (.clear zl10 (.loop b4_28)))) (.clear zl15 c4_71))) (retK [.tmp 6])) (retK [.tmp 6])) (s4_17 x1 x1n x1c x2 x2n x2c x3 x7 x8 x8n x8c x49 M) M) (P4_28 : Rec → (Option Addr) → Nat → Nat → (Option Addr) → Nat → Nat → Nat → (Option Addr) → (Option Addr) → Nat → Nat → Int → Int → Int → AMem → Res) (hP4_28 : P4_28 = fun (L : Rec) (x1 : Option Addr) (x1n : Nat) (x1c : Nat) (x2 : Option Addr) (x2n : Nat) (x2c : Nat) (x3 : Nat) (x7 : Option Addr) (x8 : Option Addr) (x8n : Nat) (x8c : Nat) (x9 : Int) (x10 : Int) (x11 : Int) (M : AMem) => L.loop b4_28 (blockK 0 (seqK (code L (.clear zl15 c4_71) (retK [.tmp 6])) (retK [.tmp 6]))) (s4_28 x1 x1n x1c x2 x2n x2c x3 x7 x8 x8n x8c x9 x10 x11 M) M) (x1 : Option Addr) (x1n : Nat) (x1c : Nat) (x2 : Option Addr) (x2n : Nat) (x2c : Nat) (x3 : Nat) (x7 : Option Addr) (x8 : Option Addr) (x8n : Nat) (x8c : Nat) (x49 : Bool) (M : AMem) : P4_17 L x1 x1n x1c x2 x2n x2c x3 x7 x8 x8n x8c x49 M =
  (if x49 = true
    then (Option.bind (L.call 8 [] []) fun r_1 =>
      (Option.bind (boolOf? (some r_1.1)) fun q_2 =>
      some (.bool q_2, M)))
    else P4_28 L x1 x1n x1c x2 x2n x2c x3 x7 x8 x8n x8c 0 0 0 M) := by
  subst hP4_17; subst hP4_28; kernel_rfl
theorem P4_17_eq (L : Rec) (x1 : Option Addr) (x1n : Nat) (x1c : Nat) (x2 : Option Addr) (x2n : Nat) (x2c : Nat) (x3 : Nat) (x7 : Option Addr) (x8 : Option Addr) (x8n : Nat) (x8c : Nat) (x49 : Bool) (M : AMem) : P4_17 L x1 x1n x1c x2 x2n x2c x3 x7 x8 x8n x8c x49 M =
  (if x49 = true
    then (Option.bind (L.call 8 [] []) fun r_1 =>
      (Option.bind (boolOf? (some r_1.1)) fun q_2 =>
      some (.bool q_2, M)))
    else P4_28 L x1 x1n x1c x2 x2n x2c x3 x7 x8 x8n x8c 0 0 0 M) := QP4_17_eq L b4_28 c4_71 P4_17 (Classical.choose_spec XP4_17) P4_28 (Classical.choose_spec XP4_28) x1 x1n x1c x2 x2n x2c x3 x7 x8 x8n x8c x49 M
theorem QP4_28_eq (L : Rec) (b4_28 c4_48 c4_70 c4_71 : ACode) (hb : ∀ K t A, L.loop b4_28 K t A = code L (.post (.seq (.seq (.ops o4_31) (.cond (.tmp 54) (.skip) (.exit 0))) (.seq (.block 1 (.seq (.ops o4_38) (.seq (.ops o4_40) (.seq (.seq (.ops o4_43) (.cond (.tmp 78) (.seq (.seq (.ops o4_47) (.clear zl9 c4_48)) (.exit 1)) (.skip))) (.seq (.ops o4_56) (.seq (.ops o4_58) (.cond (.tmp 93) (.seq (.ops o4_61) (.seq (.ops o4_63) (.cond (.tmp 99) (.seq (.ops o4_66) (.ret)) (.skip)))) (.skip)))))))) (.clear zl10 c4_70))) zl10) (loopK L b4_28 K) t A) (P4_28 : Rec → (Option Addr) → Nat → Nat → (Option Addr) → Nat → Nat → Nat → (Option Addr) → (Option Addr) → Nat → Nat → Int → Int → Int → AMem → Res) (hP4_28 : P4_28 = fun (L : Rec) (x1 : Option Addr) (x1n : Nat) (x1c : Nat) (x2 : Option Addr) (x2n : Nat) (x2c : Nat) (x3 : Nat) (x7 : Option Addr) (x8 : Option Addr) (x8n : Nat) (x8c : Nat) (x9 : Int) (x10 : Int) (x11 : Int) (M : AMem) => L.loop b4_28 (blockK 0 (seqK (code L (.clear zl15 c4_71) (retK [.tmp 6])) (retK [.tmp 6]))) (s4_28 x1 x1n x1c x2 x2n x2c x3 x7 x8 x8n x8c x9 x10 x11 M) M) (P4_48 : Rec → (Option Addr) → Nat → Nat → (Option Addr) → Nat → Nat → Nat → (Option Addr) → (Option Addr) → Nat → Nat → Int → Int → Int → Bool → AMem → Res) (hP4_48 : P4_48 = fun (L : Rec) (x1 : Option Addr) (x1n : Nat) (x1c : Nat) (x2 : Option Addr) (x2n : Nat) (x2c : Nat) (x3 : Nat) (x7 : Option Addr) (x8 : Option Addr) (x8n : Nat) (x8c : Nat) (x9 : Int) (x10 : Int) (x11 : Int) (x84 : Bool) (M : AMem) => code L c4_48 (seqK (code L (.exit 1) (seqK (code L (.seq (.ops o4_56) (.seq (.ops o4_58) (.cond (.tmp 93) (.seq (.ops o4_61) (.seq (.ops o4_63) (.cond (.tmp 99) (.seq (.ops o4_66) (.ret)) (.skip)))) (.skip)))) (blockK 1 (seqK (code L (.clear zl10 c4_70) (postK zl10 (loopK L b4_28 (blockK 0 (seqK (code L (.clear zl15 c4_71) (retK [.tmp 6])) (retK [.tmp 6])))))) (postK zl10 (loopK L b4_28 (blockK 0 (seqK (code L (.clear zl15 c4_71) (retK [.tmp 6])) (retK [.tmp 6])))))))) (blockK 1 (seqK (code L (.clear zl10 c4_70) (postK zl10 (loopK L b4_28 (blockK 0 (seqK (code L (.clear zl15 c4_71) (retK [.tmp 6])) (retK [.tmp 6])))))) (postK zl10 (loopK L b4_28 (blockK 0 (seqK (code L (.clear zl15 c4_71) (retK [.tmp 6])) (retK [.tmp 6]))))))))) (seqK (code L (.seq (.ops o4_56) (.seq (.ops o4_58) (.cond (.tmp 93) (.seq (.ops o4_61) (.seq (.ops o4_63) (.cond (.tmp 99) (.seq (.ops o4_66) (.ret)) (.skip)))) (.skip)))) (blockK 1 (seqK (code L (.clear zl10 c4_70) (postK zl10 (loopK L b4_28 (blockK 0 (seqK (code L (.clear zl15 c4_71) (retK [.tmp 6])) (retK [.tmp 6])))))) (postK zl10 (loopK L b4_28 (blockK 0 (seqK (code L (.clear zl15 c4_71) (retK [.tmp 6])) (retK [.tmp 6])))))))) (blockK 1 (seqK (code L (.clear zl10 c4_70) (postK zl10 (loopK L b4_28 (blockK 0 (seqK (code L (.clear zl15 c4_71) (retK [.tmp 6])) (retK [.tmp 6])))))) (postK zl10 (loopK L b4_28 (blockK 0 (seqK (code L (.clear zl15 c4_71) (retK [.tmp 6])) (retK [.tmp 6]))))))))) (s4_48 x1 x1n x1c x2 x2n x2c x3 x7 x8 x8n x8c x9 x10 x11 x84 M) M) (P4_70 : Rec → (Option Addr) → Nat → Nat → (Option Addr) → Nat → Nat → Nat → (Option Addr) → (Option Addr) → Nat → Nat → Int → Int → Int → AMem → Res) (hP4_70 : P4_70 = fun (L : Rec) (x1 : Option Addr) (x1n : Nat) (x1c : Nat) (x2 : Option Addr) (x2n : Nat) (x2c : Nat) (x3 : Nat) (x7 : Option Addr) (x8 : Option Addr) (x8n : Nat) (x8c : Nat) (x9 : Int) (x10 : Int) (x11 : Int) (M : AMem) => code L c4_70 (postK zl10 (loopK L b4_28 (blockK 0 (seqK (code L (.clear zl15 c4_71) (retK [.tmp 6])) (retK [.tmp 6]))))) (s4_70 x1 x1n x1c x2 x2n x2c x3 x7 x8 x8n x8c x9 x10 x11 M) M) (P4_71 : Rec → (Option Addr) → Nat → Nat → Nat → (Option Addr) → (Option Addr) → Nat → Nat → Int → Int → AMem → Res) (hP4_71 : P4_71 = fun (L : Rec) (x1 : Option Addr) (x1n : Nat) (x1c : Nat) (x3 : Nat) (x7 : Option Addr) (x8 : Option Addr) (x8n : Nat) (x8c : Nat) (x9 : Int) (x10 : Int) (M : AMem) => code L c4_71 (retK [.tmp 6]) (s4_71 x1 x1n x1c x3 x7 x8 x8n x8c x9 x10 M) M) (x1 : Option Addr) (x1n : Nat) (x1c : Nat) (x2 : Option Addr) (x2n : Nat) (x2c : Nat) (x3 : Nat) (x7 : Option Addr) (x8 : Option Addr) (x8n : Nat) (x8c : Nat) (x9 : Int) (x10 : Int) (x11 : Int) (M : AMem) : P4_28 L x1 x1n x1c x2 x2n x2c x3 x7 x8 x8n x8c x9 x10 x11 M =
  (if (decide (x11 < (Int.ofNat x2n))) = true
    then (match x2 with
      | some a_1 => (if (0 : Int) ≤ x11 ∧ x11 < (Int.ofNat x2n)
        then (Option.bind (intOf? .u8 (AMem.ld M a_1.block (a_1.off + ((Int.toNat x11) * 1)))) fun x_2 =>
          (if (Int.ofNat x8n) = 0
          then none
          else (match x8 with
            | some a_3 => (if (0 : Int) ≤ (Int.tmod (IntKind.wrap .i64 x_2) (Int.ofNat x8n)) ∧ (Int.tmod (IntKind.wrap .i64 x_2) (Int.ofNat x8n)) < (Int.ofNat x8n)
              then (Option.bind (ptrOf? (AMem.ld M a_3.block (a_3.off + ((Int.toNat (Int.tmod (IntKind.wrap .i64 x_2) (Int.ofNat x8n))) * 1)))) fun p_4 =>
                (Option.bind (L.call 18 [.pointer p_4] M) fun r_5 =>
                (Option.bind (intOf? .i64 (some r_5.1)) fun x_6 =>
                (Option.bind (L.call 19 [.pointer x7] r_5.2) fun r_7 =>
                (Option.bind (intOf? .i64 (some r_7.1)) fun x_8 =>
                (match x8 with
                | some a_9 => (if (0 : Int) ≤ (Int.tmod (IntKind.wrap .i64 x_2) (Int.ofNat x8n)) ∧ (Int.tmod (IntKind.wrap .i64 x_2) (Int.ofNat x8n)) < (Int.ofNat x8n)
                  then (Option.bind (ptrOf? (AMem.ld r_7.2 a_9.block (a_9.off + ((Int.toNat (Int.tmod (IntKind.wrap .i64 x_2) (Int.ofNat x8n))) * 1)))) fun p_10 =>
                    (Option.bind (L.call 13 [.pointer p_10, .pointer x7] r_7.2) fun r_11 =>
                    (Option.bind (boolOf? (some r_11.1)) fun q_12 =>
                    (if (!q_12) = true
                    then (match x8 with
                      | some a_13 => (if (0 : Int) ≤ (Int.tmod (IntKind.wrap .i64 x_2) (Int.ofNat x8n)) ∧ (Int.tmod (IntKind.wrap .i64 x_2) (Int.ofNat x8n)) < (Int.ofNat x8n)
                        then (Option.bind (ptrOf? (AMem.ld r_11.2 a_13.block (a_13.off + ((Int.toNat (Int.tmod (IntKind.wrap .i64 x_2) (Int.ofNat x8n))) * 1)))) fun p_14 =>
                          (Option.bind (L.call 15 [.pointer p_14] r_11.2) fun r_15 =>
                          (Option.bind (boolOf? (some r_15.1)) fun q_16 =>
                          P4_48 L x1 x1n x1c x2 x2n x2c x3 x7 x8 x8n x8c x9 x10 x11 (!q_16) r_15.2)))
                        else none)
                      | none => none)
                    else (match x8 with
                      | some a_17 => (if (0 : Int) ≤ (Int.tmod (IntKind.wrap .i64 x_2) (Int.ofNat x8n)) ∧ (Int.tmod (IntKind.wrap .i64 x_2) (Int.ofNat x8n)) < (Int.ofNat x8n)
                        then (Option.bind (ptrOf? (AMem.ld r_11.2 a_17.block (a_17.off + ((Int.toNat (Int.tmod (IntKind.wrap .i64 x_2) (Int.ofNat x8n))) * 1)))) fun p_18 =>
                          (Option.bind (L.call 18 [.pointer p_18] r_11.2) fun r_19 =>
                          (Option.bind (intOf? .i64 (some r_19.1)) fun x_20 =>
                          (if (decide (x_20 > x_6)) = true
                          then (Option.bind (L.call 19 [.pointer x7] r_19.2) fun r_21 =>
                            (Option.bind (intOf? .i64 (some r_21.1)) fun x_22 =>
                            (if (x_22 != x_8) = true
                            then some (.bool false, r_21.2)
                            else P4_70 L x1 x1n x1c x2 x2n x2c x3 x7 x8 x8n x8c (IntKind.wrap .i64 (x9 + 1)) (IntKind.wrap .i64 (x10 + 1)) x11 r_21.2)))
                          else P4_70 L x1 x1n x1c x2 x2n x2c x3 x7 x8 x8n x8c x9 (IntKind.wrap .i64 (x10 + 1)) x11 r_19.2))))
                        else none)
                      | none => none)))))
                  else none)
                | none => none))))))
              else none)
            | none => none)))
        else none)
      | none => none)
    else P4_71 L x1 x1n x1c x3 x7 x8 x8n x8c x9 x10 M) := by
  subst hP4_28; subst hP4_48; subst hP4_70; subst hP4_71; exact (hb (blockK 0 (seqK (code L (.clear zl15 c4_71) (retK [.tmp 6])) (retK [.tmp 6]))) (s4_28 x1 x1n x1c x2 x2n x2c x3 x7 x8 x8n x8c x9 x10 x11 M) M).trans (by kernel_rfl)
theorem P4_28_eq (L : Rec) (hL : ∀ b K t A, L.loop b K t A = code L b (loopK L b K) t A) (x1 : Option Addr) (x1n : Nat) (x1c : Nat) (x2 : Option Addr) (x2n : Nat) (x2c : Nat) (x3 : Nat) (x7 : Option Addr) (x8 : Option Addr) (x8n : Nat) (x8c : Nat) (x9 : Int) (x10 : Int) (x11 : Int) (M : AMem) : P4_28 L x1 x1n x1c x2 x2n x2c x3 x7 x8 x8n x8c x9 x10 x11 M =
  (if (decide (x11 < (Int.ofNat x2n))) = true
    then (match x2 with
      | some a_1 => (if (0 : Int) ≤ x11 ∧ x11 < (Int.ofNat x2n)
        then (Option.bind (intOf? .u8 (AMem.ld M a_1.block (a_1.off + ((Int.toNat x11) * 1)))) fun x_2 =>
          (if (Int.ofNat x8n) = 0
          then none
          else (match x8 with
            | some a_3 => (if (0 : Int) ≤ (Int.tmod (IntKind.wrap .i64 x_2) (Int.ofNat x8n)) ∧ (Int.tmod (IntKind.wrap .i64 x_2) (Int.ofNat x8n)) < (Int.ofNat x8n)
              then (Option.bind (ptrOf? (AMem.ld M a_3.block (a_3.off + ((Int.toNat (Int.tmod (IntKind.wrap .i64 x_2) (Int.ofNat x8n))) * 1)))) fun p_4 =>
                (Option.bind (L.call 18 [.pointer p_4] M) fun r_5 =>
                (Option.bind (intOf? .i64 (some r_5.1)) fun x_6 =>
                (Option.bind (L.call 19 [.pointer x7] r_5.2) fun r_7 =>
                (Option.bind (intOf? .i64 (some r_7.1)) fun x_8 =>
                (match x8 with
                | some a_9 => (if (0 : Int) ≤ (Int.tmod (IntKind.wrap .i64 x_2) (Int.ofNat x8n)) ∧ (Int.tmod (IntKind.wrap .i64 x_2) (Int.ofNat x8n)) < (Int.ofNat x8n)
                  then (Option.bind (ptrOf? (AMem.ld r_7.2 a_9.block (a_9.off + ((Int.toNat (Int.tmod (IntKind.wrap .i64 x_2) (Int.ofNat x8n))) * 1)))) fun p_10 =>
                    (Option.bind (L.call 13 [.pointer p_10, .pointer x7] r_7.2) fun r_11 =>
                    (Option.bind (boolOf? (some r_11.1)) fun q_12 =>
                    (if (!q_12) = true
                    then (match x8 with
                      | some a_13 => (if (0 : Int) ≤ (Int.tmod (IntKind.wrap .i64 x_2) (Int.ofNat x8n)) ∧ (Int.tmod (IntKind.wrap .i64 x_2) (Int.ofNat x8n)) < (Int.ofNat x8n)
                        then (Option.bind (ptrOf? (AMem.ld r_11.2 a_13.block (a_13.off + ((Int.toNat (Int.tmod (IntKind.wrap .i64 x_2) (Int.ofNat x8n))) * 1)))) fun p_14 =>
                          (Option.bind (L.call 15 [.pointer p_14] r_11.2) fun r_15 =>
                          (Option.bind (boolOf? (some r_15.1)) fun q_16 =>
                          P4_48 L x1 x1n x1c x2 x2n x2c x3 x7 x8 x8n x8c x9 x10 x11 (!q_16) r_15.2)))
                        else none)
                      | none => none)
                    else (match x8 with
                      | some a_17 => (if (0 : Int) ≤ (Int.tmod (IntKind.wrap .i64 x_2) (Int.ofNat x8n)) ∧ (Int.tmod (IntKind.wrap .i64 x_2) (Int.ofNat x8n)) < (Int.ofNat x8n)
                        then (Option.bind (ptrOf? (AMem.ld r_11.2 a_17.block (a_17.off + ((Int.toNat (Int.tmod (IntKind.wrap .i64 x_2) (Int.ofNat x8n))) * 1)))) fun p_18 =>
                          (Option.bind (L.call 18 [.pointer p_18] r_11.2) fun r_19 =>
                          (Option.bind (intOf? .i64 (some r_19.1)) fun x_20 =>
                          (if (decide (x_20 > x_6)) = true
                          then (Option.bind (L.call 19 [.pointer x7] r_19.2) fun r_21 =>
                            (Option.bind (intOf? .i64 (some r_21.1)) fun x_22 =>
                            (if (x_22 != x_8) = true
                            then some (.bool false, r_21.2)
                            else P4_70 L x1 x1n x1c x2 x2n x2c x3 x7 x8 x8n x8c (IntKind.wrap .i64 (x9 + 1)) (IntKind.wrap .i64 (x10 + 1)) x11 r_21.2)))
                          else P4_70 L x1 x1n x1c x2 x2n x2c x3 x7 x8 x8n x8c x9 (IntKind.wrap .i64 (x10 + 1)) x11 r_19.2))))
                        else none)
                      | none => none)))))
                  else none)
                | none => none))))))
              else none)
            | none => none)))
        else none)
      | none => none)
    else P4_71 L x1 x1n x1c x3 x7 x8 x8n x8c x9 x10 M) := QP4_28_eq L b4_28 c4_48 c4_70 c4_71 (hL b4_28) P4_28 (Classical.choose_spec XP4_28) P4_48 (Classical.choose_spec XP4_48) P4_70 (Classical.choose_spec XP4_70) P4_71 (Classical.choose_spec XP4_71) x1 x1n x1c x2 x2n x2c x3 x7 x8 x8n x8c x9 x10 x11 M
theorem QP4_48_eq (L : Rec) (b4_28 c4_70 c4_71 : ACode) (P4_48 : Rec → (Option Addr) → Nat → Nat → (Option Addr) → Nat → Nat → Nat → (Option Addr) → (Option Addr) → Nat → Nat → Int → Int → Int → Bool → AMem → Res) (hP4_48 : P4_48 = fun (L : Rec) (x1 : Option Addr) (x1n : Nat) (x1c : Nat) (x2 : Option Addr) (x2n : Nat) (x2c : Nat) (x3 : Nat) (x7 : Option Addr) (x8 : Option Addr) (x8n : Nat) (x8c : Nat) (x9 : Int) (x10 : Int) (x11 : Int) (x84 : Bool) (M : AMem) => code L (.cond (.tmp 84) (.seq (.ops o4_50) (.ret)) (.skip)) (seqK (code L (.exit 1) (seqK (code L (.seq (.ops o4_56) (.seq (.ops o4_58) (.cond (.tmp 93) (.seq (.ops o4_61) (.seq (.ops o4_63) (.cond (.tmp 99) (.seq (.ops o4_66) (.ret)) (.skip)))) (.skip)))) (blockK 1 (seqK (code L (.clear zl10 c4_70) (postK zl10 (loopK L b4_28 (blockK 0 (seqK (code L (.clear zl15 c4_71) (retK [.tmp 6])) (retK [.tmp 6])))))) (postK zl10 (loopK L b4_28 (blockK 0 (seqK (code L (.clear zl15 c4_71) (retK [.tmp 6])) (retK [.tmp 6])))))))) (blockK 1 (seqK (code L (.clear zl10 c4_70) (postK zl10 (loopK L b4_28 (blockK 0 (seqK (code L (.clear zl15 c4_71) (retK [.tmp 6])) (retK [.tmp 6])))))) (postK zl10 (loopK L b4_28 (blockK 0 (seqK (code L (.clear zl15 c4_71) (retK [.tmp 6])) (retK [.tmp 6]))))))))) (seqK (code L (.seq (.ops o4_56) (.seq (.ops o4_58) (.cond (.tmp 93) (.seq (.ops o4_61) (.seq (.ops o4_63) (.cond (.tmp 99) (.seq (.ops o4_66) (.ret)) (.skip)))) (.skip)))) (blockK 1 (seqK (code L (.clear zl10 c4_70) (postK zl10 (loopK L b4_28 (blockK 0 (seqK (code L (.clear zl15 c4_71) (retK [.tmp 6])) (retK [.tmp 6])))))) (postK zl10 (loopK L b4_28 (blockK 0 (seqK (code L (.clear zl15 c4_71) (retK [.tmp 6])) (retK [.tmp 6])))))))) (blockK 1 (seqK (code L (.clear zl10 c4_70) (postK zl10 (loopK L b4_28 (blockK 0 (seqK (code L (.clear zl15 c4_71) (retK [.tmp 6])) (retK [.tmp 6])))))) (postK zl10 (loopK L b4_28 (blockK 0 (seqK (code L (.clear zl15 c4_71) (retK [.tmp 6])) (retK [.tmp 6]))))))))) (s4_48 x1 x1n x1c x2 x2n x2c x3 x7 x8 x8n x8c x9 x10 x11 x84 M) M) (P4_70 : Rec → (Option Addr) → Nat → Nat → (Option Addr) → Nat → Nat → Nat → (Option Addr) → (Option Addr) → Nat → Nat → Int → Int → Int → AMem → Res) (hP4_70 : P4_70 = fun (L : Rec) (x1 : Option Addr) (x1n : Nat) (x1c : Nat) (x2 : Option Addr) (x2n : Nat) (x2c : Nat) (x3 : Nat) (x7 : Option Addr) (x8 : Option Addr) (x8n : Nat) (x8c : Nat) (x9 : Int) (x10 : Int) (x11 : Int) (M : AMem) => code L c4_70 (postK zl10 (loopK L b4_28 (blockK 0 (seqK (code L (.clear zl15 c4_71) (retK [.tmp 6])) (retK [.tmp 6]))))) (s4_70 x1 x1n x1c x2 x2n x2c x3 x7 x8 x8n x8c x9 x10 x11 M) M) (x1 : Option Addr) (x1n : Nat) (x1c : Nat) (x2 : Option Addr) (x2n : Nat) (x2c : Nat) (x3 : Nat) (x7 : Option Addr) (x8 : Option Addr) (x8n : Nat) (x8c : Nat) (x9 : Int) (x10 : Int) (x11 : Int) (x84 : Bool) (M : AMem) : P4_48 L x1 x1n x1c x2 x2n x2c x3 x7 x8 x8n x8c x9 x10 x11 x84 M =
  (if x84 = true
    then some (.bool false, M)
    else P4_70 L x1 x1n x1c x2 x2n x2c x3 x7 x8 x8n x8c x9 x10 x11 M) := by
  subst hP4_48; subst hP4_70; kernel_rfl
theorem P4_48_eq (L : Rec) (x1 : Option Addr) (x1n : Nat) (x1c : Nat) (x2 : Option Addr) (x2n : Nat) (x2c : Nat) (x3 : Nat) (x7 : Option Addr) (x8 : Option Addr) (x8n : Nat) (x8c : Nat) (x9 : Int) (x10 : Int) (x11 : Int) (x84 : Bool) (M : AMem) : P4_48 L x1 x1n x1c x2 x2n x2c x3 x7 x8 x8n x8c x9 x10 x11 x84 M =
  (if x84 = true
    then some (.bool false, M)
    else P4_70 L x1 x1n x1c x2 x2n x2c x3 x7 x8 x8n x8c x9 x10 x11 M) := QP4_48_eq L b4_28 c4_70 c4_71 P4_48 (Classical.choose_spec XP4_48) P4_70 (Classical.choose_spec XP4_70) x1 x1n x1c x2 x2n x2c x3 x7 x8 x8n x8c x9 x10 x11 x84 M
theorem QP4_70_eq (L : Rec) (b4_28 c4_71 : ACode) (P4_28 : Rec → (Option Addr) → Nat → Nat → (Option Addr) → Nat → Nat → Nat → (Option Addr) → (Option Addr) → Nat → Nat → Int → Int → Int → AMem → Res) (hP4_28 : P4_28 = fun (L : Rec) (x1 : Option Addr) (x1n : Nat) (x1c : Nat) (x2 : Option Addr) (x2n : Nat) (x2c : Nat) (x3 : Nat) (x7 : Option Addr) (x8 : Option Addr) (x8n : Nat) (x8c : Nat) (x9 : Int) (x10 : Int) (x11 : Int) (M : AMem) => L.loop b4_28 (blockK 0 (seqK (code L (.clear zl15 c4_71) (retK [.tmp 6])) (retK [.tmp 6]))) (s4_28 x1 x1n x1c x2 x2n x2c x3 x7 x8 x8n x8c x9 x10 x11 M) M) (P4_70 : Rec → (Option Addr) → Nat → Nat → (Option Addr) → Nat → Nat → Nat → (Option Addr) → (Option Addr) → Nat → Nat → Int → Int → Int → AMem → Res) (hP4_70 : P4_70 = fun (L : Rec) (x1 : Option Addr) (x1n : Nat) (x1c : Nat) (x2 : Option Addr) (x2n : Nat) (x2c : Nat) (x3 : Nat) (x7 : Option Addr) (x8 : Option Addr) (x8n : Nat) (x8c : Nat) (x9 : Int) (x10 : Int) (x11 : Int) (M : AMem) => code L (.ops o4_70) (postK zl10 (loopK L b4_28 (blockK 0 (seqK (code L (.clear zl15 c4_71) (retK [.tmp 6])) (retK [.tmp 6]))))) (s4_70 x1 x1n x1c x2 x2n x2c x3 x7 x8 x8n x8c x9 x10 x11 M) M) (x1 : Option Addr) (x1n : Nat) (x1c : Nat) (x2 : Option Addr) (x2n : Nat) (x2c : Nat) (x3 : Nat) (x7 : Option Addr) (x8 : Option Addr) (x8n : Nat) (x8c : Nat) (x9 : Int) (x10 : Int) (x11 : Int) (M : AMem) : P4_70 L x1 x1n x1c x2 x2n x2c x3 x7 x8 x8n x8c x9 x10 x11 M =
  P4_28 L x1 x1n x1c x2 x2n x2c x3 x7 x8 x8n x8c x9 x10 (IntKind.wrap .i64 (x11 + 1)) M := by
  subst hP4_28; subst hP4_70; kernel_rfl
theorem P4_70_eq (L : Rec) (x1 : Option Addr) (x1n : Nat) (x1c : Nat) (x2 : Option Addr) (x2n : Nat) (x2c : Nat) (x3 : Nat) (x7 : Option Addr) (x8 : Option Addr) (x8n : Nat) (x8c : Nat) (x9 : Int) (x10 : Int) (x11 : Int) (M : AMem) : P4_70 L x1 x1n x1c x2 x2n x2c x3 x7 x8 x8n x8c x9 x10 x11 M =
  P4_28 L x1 x1n x1c x2 x2n x2c x3 x7 x8 x8n x8c x9 x10 (IntKind.wrap .i64 (x11 + 1)) M := QP4_70_eq L b4_28 c4_71 P4_28 (Classical.choose_spec XP4_28) P4_70 (Classical.choose_spec XP4_70) x1 x1n x1c x2 x2n x2c x3 x7 x8 x8n x8c x9 x10 x11 M
theorem QP4_71_eq (L : Rec) (c4_81 : ACode) (P4_71 : Rec → (Option Addr) → Nat → Nat → Nat → (Option Addr) → (Option Addr) → Nat → Nat → Int → Int → AMem → Res) (hP4_71 : P4_71 = fun (L : Rec) (x1 : Option Addr) (x1n : Nat) (x1c : Nat) (x3 : Nat) (x7 : Option Addr) (x8 : Option Addr) (x8n : Nat) (x8c : Nat) (x9 : Int) (x10 : Int) (M : AMem) => code L (.seq (.seq (.ops o4_73) (.cond (.tmp 122) (.seq (.ops o4_76) (.ret)) (.skip))) (.seq (.draw [] 0 o4_80 [(5, 10)]) (.clear zl13 c4_81))) (retK [.tmp 6]) (s4_71 x1 x1n x1c x3 x7 x8 x8n x8c x9 x10 M) M) (P4_81 : Rec → (Option Addr) → Nat → Nat → (Option Addr) → (Option Addr) → AMem → Res) (hP4_81 : P4_81 = fun (L : Rec) (x1 : Option Addr) (x1n : Nat) (x1c : Nat) (x7 : Option Addr) (x15 : Option Addr) (M : AMem) => code L c4_81 (retK [.tmp 6]) (s4_81 x1 x1n x1c x7 x15 M) M) (x1 : Option Addr) (x1n : Nat) (x1c : Nat) (x3 : Nat) (x7 : Option Addr) (x8 : Option Addr) (x8n : Nat) (x8c : Nat) (x9 : Int) (x10 : Int) (M : AMem) : P4_71 L x1 x1n x1c x3 x7 x8 x8n x8c x9 x10 M =
  (if ((Int.ofNat x8n) == 1) = true
    then (if (decide (x9 > 0)) = true
      then some (.bool false, M)
      else (Option.bind (L.call 19 [.pointer x7] M) fun r_1 =>
        (Option.bind (intOf? .i64 (some r_1.1)) fun x_2 =>
        (if (decide (x9 > (IntKind.wrap .i64 (x_2 * (IntKind.wrap .i64 ((Int.ofNat x8n) - 1)))))) = true
        then some (.bool false, r_1.2)
        else (Option.bind (L.call 20 [.pointer x7] r_1.2) fun r_3 =>
          (Option.bind (intOf? .i64 (some r_3.1)) fun x_4 =>
          (if (x_4 != x10) = true
          then some (.bool false, r_3.2)
          else (Option.bind (intOf? .i64 (AMem.ld r_3.2 x3 0)) fun x_5 =>
            (Option.bind (intOf? .i64 (AMem.ld r_3.2 x3 1)) fun x_6 =>
            (Option.bind (L.call 22 [.agg #[.int .i64 x_5, .int .i64 x_6]] []) fun r_7 =>
            (Option.bind (aggOf? 2 r_7.1) fun cs_8 =>
            (Option.bind (intOf? .i64 (cs_8[0]?)) fun x_9 =>
            (Option.bind (intOf? .i64 (cs_8[1]?)) fun x_10 =>
            (match x1 with
            | some a_11 => (if (0 : Int) ≤ 0 ∧ 0 < (Int.ofNat x1n)
              then (Option.bind (intOf? .i64 (AMem.ld r_3.2 a_11.block a_11.off)) fun x_12 =>
                (match x1 with
                | some a_13 => (if (0 : Int) ≤ 0 ∧ 0 < (Int.ofNat x1n)
                  then (Option.bind (sliceOf? (AMem.ld r_3.2 a_13.block (a_13.off + 1))) fun s_14 =>
                    (Option.bind (L.call 23 [.slice s_14.1 s_14.2.1 s_14.2.2] r_3.2) fun r_15 =>
                    (Option.bind (sliceOf? (some r_15.1)) fun s_16 =>
                    (Option.bind (L.call 21 [.agg #[.int .i64 x_9, .int .i64 x_10], .int .i64 x_12, .slice s_16.1 s_16.2.1 s_16.2.2] r_15.2) fun r_17 =>
                    (Option.bind (ptrOf? (some r_17.1)) fun p_18 =>
                    (if chkOk [(5, 10)] [(5, a_11.block)] [(10, (r_3.2, r_15.2))] = true
                    then P4_81 L x1 x1n x1c x7 p_18 r_17.2
                    else none))))))
                  else none)
                | none => none))
              else none)
            | none => none))))))))))))))
    else (Option.bind (L.call 19 [.pointer x7] M) fun r_19 =>
      (Option.bind (intOf? .i64 (some r_19.1)) fun x_20 =>
      (if (decide (x9 > (IntKind.wrap .i64 (x_20 * (IntKind.wrap .i64 ((Int.ofNat x8n) - 1)))))) = true
      then some (.bool false, r_19.2)
      else (Option.bind (L.call 20 [.pointer x7] r_19.2) fun r_21 =>
        (Option.bind (intOf? .i64 (some r_21.1)) fun x_22 =>
        (if (x_22 != x10) = true
        then some (.bool false, r_21.2)
        else (Option.bind (intOf? .i64 (AMem.ld r_21.2 x3 0)) fun x_23 =>
          (Option.bind (intOf? .i64 (AMem.ld r_21.2 x3 1)) fun x_24 =>
          (Option.bind (L.call 22 [.agg #[.int .i64 x_23, .int .i64 x_24]] []) fun r_25 =>
          (Option.bind (aggOf? 2 r_25.1) fun cs_26 =>
          (Option.bind (intOf? .i64 (cs_26[0]?)) fun x_27 =>
          (Option.bind (intOf? .i64 (cs_26[1]?)) fun x_28 =>
          (match x1 with
          | some a_29 => (if (0 : Int) ≤ 0 ∧ 0 < (Int.ofNat x1n)
            then (Option.bind (intOf? .i64 (AMem.ld r_21.2 a_29.block a_29.off)) fun x_30 =>
              (match x1 with
              | some a_31 => (if (0 : Int) ≤ 0 ∧ 0 < (Int.ofNat x1n)
                then (Option.bind (sliceOf? (AMem.ld r_21.2 a_31.block (a_31.off + 1))) fun s_32 =>
                  (Option.bind (L.call 23 [.slice s_32.1 s_32.2.1 s_32.2.2] r_21.2) fun r_33 =>
                  (Option.bind (sliceOf? (some r_33.1)) fun s_34 =>
                  (Option.bind (L.call 21 [.agg #[.int .i64 x_27, .int .i64 x_28], .int .i64 x_30, .slice s_34.1 s_34.2.1 s_34.2.2] r_33.2) fun r_35 =>
                  (Option.bind (ptrOf? (some r_35.1)) fun p_36 =>
                  (if chkOk [(5, 10)] [(5, a_29.block)] [(10, (r_21.2, r_33.2))] = true
                  then P4_81 L x1 x1n x1c x7 p_36 r_35.2
                  else none))))))
                else none)
              | none => none))
            else none)
          | none => none)))))))))))))) := by
  subst hP4_71; subst hP4_81; kernel_rfl
theorem P4_71_eq (L : Rec) (x1 : Option Addr) (x1n : Nat) (x1c : Nat) (x3 : Nat) (x7 : Option Addr) (x8 : Option Addr) (x8n : Nat) (x8c : Nat) (x9 : Int) (x10 : Int) (M : AMem) : P4_71 L x1 x1n x1c x3 x7 x8 x8n x8c x9 x10 M =
  (if ((Int.ofNat x8n) == 1) = true
    then (if (decide (x9 > 0)) = true
      then some (.bool false, M)
      else (Option.bind (L.call 19 [.pointer x7] M) fun r_1 =>
        (Option.bind (intOf? .i64 (some r_1.1)) fun x_2 =>
        (if (decide (x9 > (IntKind.wrap .i64 (x_2 * (IntKind.wrap .i64 ((Int.ofNat x8n) - 1)))))) = true
        then some (.bool false, r_1.2)
        else (Option.bind (L.call 20 [.pointer x7] r_1.2) fun r_3 =>
          (Option.bind (intOf? .i64 (some r_3.1)) fun x_4 =>
          (if (x_4 != x10) = true
          then some (.bool false, r_3.2)
          else (Option.bind (intOf? .i64 (AMem.ld r_3.2 x3 0)) fun x_5 =>
            (Option.bind (intOf? .i64 (AMem.ld r_3.2 x3 1)) fun x_6 =>
            (Option.bind (L.call 22 [.agg #[.int .i64 x_5, .int .i64 x_6]] []) fun r_7 =>
            (Option.bind (aggOf? 2 r_7.1) fun cs_8 =>
            (Option.bind (intOf? .i64 (cs_8[0]?)) fun x_9 =>
            (Option.bind (intOf? .i64 (cs_8[1]?)) fun x_10 =>
            (match x1 with
            | some a_11 => (if (0 : Int) ≤ 0 ∧ 0 < (Int.ofNat x1n)
              then (Option.bind (intOf? .i64 (AMem.ld r_3.2 a_11.block a_11.off)) fun x_12 =>
                (match x1 with
                | some a_13 => (if (0 : Int) ≤ 0 ∧ 0 < (Int.ofNat x1n)
                  then (Option.bind (sliceOf? (AMem.ld r_3.2 a_13.block (a_13.off + 1))) fun s_14 =>
                    (Option.bind (L.call 23 [.slice s_14.1 s_14.2.1 s_14.2.2] r_3.2) fun r_15 =>
                    (Option.bind (sliceOf? (some r_15.1)) fun s_16 =>
                    (Option.bind (L.call 21 [.agg #[.int .i64 x_9, .int .i64 x_10], .int .i64 x_12, .slice s_16.1 s_16.2.1 s_16.2.2] r_15.2) fun r_17 =>
                    (Option.bind (ptrOf? (some r_17.1)) fun p_18 =>
                    (if chkOk [(5, 10)] [(5, a_11.block)] [(10, (r_3.2, r_15.2))] = true
                    then P4_81 L x1 x1n x1c x7 p_18 r_17.2
                    else none))))))
                  else none)
                | none => none))
              else none)
            | none => none))))))))))))))
    else (Option.bind (L.call 19 [.pointer x7] M) fun r_19 =>
      (Option.bind (intOf? .i64 (some r_19.1)) fun x_20 =>
      (if (decide (x9 > (IntKind.wrap .i64 (x_20 * (IntKind.wrap .i64 ((Int.ofNat x8n) - 1)))))) = true
      then some (.bool false, r_19.2)
      else (Option.bind (L.call 20 [.pointer x7] r_19.2) fun r_21 =>
        (Option.bind (intOf? .i64 (some r_21.1)) fun x_22 =>
        (if (x_22 != x10) = true
        then some (.bool false, r_21.2)
        else (Option.bind (intOf? .i64 (AMem.ld r_21.2 x3 0)) fun x_23 =>
          (Option.bind (intOf? .i64 (AMem.ld r_21.2 x3 1)) fun x_24 =>
          (Option.bind (L.call 22 [.agg #[.int .i64 x_23, .int .i64 x_24]] []) fun r_25 =>
          (Option.bind (aggOf? 2 r_25.1) fun cs_26 =>
          (Option.bind (intOf? .i64 (cs_26[0]?)) fun x_27 =>
          (Option.bind (intOf? .i64 (cs_26[1]?)) fun x_28 =>
          (match x1 with
          | some a_29 => (if (0 : Int) ≤ 0 ∧ 0 < (Int.ofNat x1n)
            then (Option.bind (intOf? .i64 (AMem.ld r_21.2 a_29.block a_29.off)) fun x_30 =>
              (match x1 with
              | some a_31 => (if (0 : Int) ≤ 0 ∧ 0 < (Int.ofNat x1n)
                then (Option.bind (sliceOf? (AMem.ld r_21.2 a_31.block (a_31.off + 1))) fun s_32 =>
                  (Option.bind (L.call 23 [.slice s_32.1 s_32.2.1 s_32.2.2] r_21.2) fun r_33 =>
                  (Option.bind (sliceOf? (some r_33.1)) fun s_34 =>
                  (Option.bind (L.call 21 [.agg #[.int .i64 x_27, .int .i64 x_28], .int .i64 x_30, .slice s_34.1 s_34.2.1 s_34.2.2] r_33.2) fun r_35 =>
                  (Option.bind (ptrOf? (some r_35.1)) fun p_36 =>
                  (if chkOk [(5, 10)] [(5, a_29.block)] [(10, (r_21.2, r_33.2))] = true
                  then P4_81 L x1 x1n x1c x7 p_36 r_35.2
                  else none))))))
                else none)
              | none => none))
            else none)
          | none => none)))))))))))))) := QP4_71_eq L c4_81 P4_71 (Classical.choose_spec XP4_71) P4_81 (Classical.choose_spec XP4_81) x1 x1n x1c x3 x7 x8 x8n x8c x9 x10 M
theorem QP4_81_eq (L : Rec) (b4_85 c4_94 : ACode) (P4_81 : Rec → (Option Addr) → Nat → Nat → (Option Addr) → (Option Addr) → AMem → Res) (hP4_81 : P4_81 = fun (L : Rec) (x1 : Option Addr) (x1n : Nat) (x1c : Nat) (x7 : Option Addr) (x15 : Option Addr) (M : AMem) => code L (.seq (.ops o4_82) (.seq (.block 2 (.clear zl11 (.loop b4_85))) (.clear zl12 c4_94))) (retK [.tmp 6]) (s4_81 x1 x1n x1c x7 x15 M) M) (P4_85 : Rec → (Option Addr) → Nat → Nat → (Option Addr) → (Option Addr) → Int → AMem → Res) (hP4_85 : P4_85 = fun (L : Rec) (x1 : Option Addr) (x1n : Nat) (x1c : Nat) (x7 : Option Addr) (x15 : Option Addr) (x16 : Int) (M : AMem) => L.loop b4_85 (blockK 2 (seqK (code L (.clear zl12 c4_94) (retK [.tmp 6])) (retK [.tmp 6]))) (s4_85 x1 x1n x1c x7 x15 x16 M) M) (x1 : Option Addr) (x1n : Nat) (x1c : Nat) (x7 : Option Addr) (x15 : Option Addr) (M : AMem) : P4_81 L x1 x1n x1c x7 x15 M =
  P4_85 L x1 x1n x1c x7 x15 0 M := by
  subst hP4_81; subst hP4_85; kernel_rfl
theorem P4_81_eq (L : Rec) (x1 : Option Addr) (x1n : Nat) (x1c : Nat) (x7 : Option Addr) (x15 : Option Addr) (M : AMem) : P4_81 L x1 x1n x1c x7 x15 M =
  P4_85 L x1 x1n x1c x7 x15 0 M := QP4_81_eq L b4_85 c4_94 P4_81 (Classical.choose_spec XP4_81) P4_85 (Classical.choose_spec XP4_85) x1 x1n x1c x7 x15 M
theorem QP4_85_eq (L : Rec) (b4_85 c4_94 : ACode) (hb : ∀ K t A, L.loop b4_85 K t A = code L (.post (.seq (.seq (.ops o4_88) (.cond (.tmp 145) (.skip) (.exit 2))) (.block 3 (.ops o4_93))) zl11) (loopK L b4_85 K) t A) (P4_85 : Rec → (Option Addr) → Nat → Nat → (Option Addr) → (Option Addr) → Int → AMem → Res) (hP4_85 : P4_85 = fun (L : Rec) (x1 : Option Addr) (x1n : Nat) (x1c : Nat) (x7 : Option Addr) (x15 : Option Addr) (x16 : Int) (M : AMem) => L.loop b4_85 (blockK 2 (seqK (code L (.clear zl12 c4_94) (retK [.tmp 6])) (retK [.tmp 6]))) (s4_85 x1 x1n x1c x7 x15 x16 M) M) (P4_94 : Rec → (Option Addr) → Nat → Nat → (Option Addr) → Int → AMem → Res) (hP4_94 : P4_94 = fun (L : Rec) (x1 : Option Addr) (x1n : Nat) (x1c : Nat) (x15 : Option Addr) (x16 : Int) (M : AMem) => code L c4_94 (retK [.tmp 6]) (s4_94 x1 x1n x1c x15 x16 M) M) (x1 : Option Addr) (x1n : Nat) (x1c : Nat) (x7 : Option Addr) (x15 : Option Addr) (x16 : Int) (M : AMem) : P4_85 L x1 x1n x1c x7 x15 x16 M =
  (if (!(Option.isNone x15)) = true
    then (if (decide (x16 < 1000)) = true
      then (Option.bind (L.call 13 [.pointer x15, .pointer x7] M) fun r_1 =>
        (Option.bind (boolOf? (some r_1.1)) fun q_2 =>
        (if q_2 = true
        then P4_85 L x1 x1n x1c x7 x15 (IntKind.wrap .i64 (x16 + 1)) r_1.2
        else P4_94 L x1 x1n x1c x15 x16 r_1.2)))
      else P4_94 L x1 x1n x1c x15 x16 M)
    else P4_94 L x1 x1n x1c x15 x16 M) := by
  subst hP4_85; subst hP4_94; exact (hb (blockK 2 (seqK (code L (.clear zl12 c4_94) (retK [.tmp 6])) (retK [.tmp 6]))) (s4_85 x1 x1n x1c x7 x15 x16 M) M).trans (by kernel_rfl)
theorem P4_85_eq (L : Rec) (hL : ∀ b K t A, L.loop b K t A = code L b (loopK L b K) t A) (x1 : Option Addr) (x1n : Nat) (x1c : Nat) (x7 : Option Addr) (x15 : Option Addr) (x16 : Int) (M : AMem) : P4_85 L x1 x1n x1c x7 x15 x16 M =
  (if (!(Option.isNone x15)) = true
    then (if (decide (x16 < 1000)) = true
      then (Option.bind (L.call 13 [.pointer x15, .pointer x7] M) fun r_1 =>
        (Option.bind (boolOf? (some r_1.1)) fun q_2 =>
        (if q_2 = true
        then P4_85 L x1 x1n x1c x7 x15 (IntKind.wrap .i64 (x16 + 1)) r_1.2
        else P4_94 L x1 x1n x1c x15 x16 r_1.2)))
      else P4_94 L x1 x1n x1c x15 x16 M)
    else P4_94 L x1 x1n x1c x15 x16 M) := QP4_85_eq L b4_85 c4_94 (hL b4_85) P4_85 (Classical.choose_spec XP4_85) P4_94 (Classical.choose_spec XP4_94) x1 x1n x1c x7 x15 x16 M
theorem QP4_94_eq (L : Rec) (P4_94 : Rec → (Option Addr) → Nat → Nat → (Option Addr) → Int → AMem → Res) (hP4_94 : P4_94 = fun (L : Rec) (x1 : Option Addr) (x1n : Nat) (x1c : Nat) (x15 : Option Addr) (x16 : Int) (M : AMem) => code L (.seq (.ops o4_95) (.ret)) (retK [.tmp 6]) (s4_94 x1 x1n x1c x15 x16 M) M) (x1 : Option Addr) (x1n : Nat) (x1c : Nat) (x15 : Option Addr) (x16 : Int) (M : AMem) : P4_94 L x1 x1n x1c x15 x16 M =
  (if (Option.isNone x15) = true
    then (Option.bind (L.call 8 [] []) fun r_1 =>
      (Option.bind (boolOf? (some r_1.1)) fun q_2 =>
      some (.bool q_2, M)))
    else (match x1 with
      | some a_3 => (if (0 : Int) ≤ 0 ∧ 0 < (Int.ofNat x1n)
        then (Option.bind (sliceOf? (AMem.ld M a_3.block (a_3.off + 1))) fun s_4 =>
          (Option.bind (L.call 23 [.slice s_4.1 s_4.2.1 s_4.2.2] M) fun r_5 =>
          (Option.bind (sliceOf? (some r_5.1)) fun s_6 =>
          (Option.bind (L.call 24 [.slice s_6.1 s_6.2.1 s_6.2.2] r_5.2) fun r_7 =>
          (Option.bind (intOf? .i64 (some r_7.1)) fun x_8 =>
          (if (x16 == x_8) = true
          then (Option.bind (L.call 8 [] []) fun r_9 =>
            (Option.bind (boolOf? (some r_9.1)) fun q_10 =>
            some (.bool q_10, r_7.2)))
          else some (.bool false, r_7.2)))))))
        else none)
      | none => none)) := by
  subst hP4_94; kernel_rfl
theorem P4_94_eq (L : Rec) (x1 : Option Addr) (x1n : Nat) (x1c : Nat) (x15 : Option Addr) (x16 : Int) (M : AMem) : P4_94 L x1 x1n x1c x15 x16 M =
  (if (Option.isNone x15) = true
    then (Option.bind (L.call 8 [] []) fun r_1 =>
      (Option.bind (boolOf? (some r_1.1)) fun q_2 =>
      some (.bool q_2, M)))
    else (match x1 with
      | some a_3 => (if (0 : Int) ≤ 0 ∧ 0 < (Int.ofNat x1n)
        then (Option.bind (sliceOf? (AMem.ld M a_3.block (a_3.off + 1))) fun s_4 =>
          (Option.bind (L.call 23 [.slice s_4.1 s_4.2.1 s_4.2.2] M) fun r_5 =>
          (Option.bind (sliceOf? (some r_5.1)) fun s_6 =>
          (Option.bind (L.call 24 [.slice s_6.1 s_6.2.1 s_6.2.2] r_5.2) fun r_7 =>
          (Option.bind (intOf? .i64 (some r_7.1)) fun x_8 =>
          (if (x16 == x_8) = true
          then (Option.bind (L.call 8 [] []) fun r_9 =>
            (Option.bind (boolOf? (some r_9.1)) fun q_10 =>
            some (.bool q_10, r_7.2)))
          else some (.bool false, r_7.2)))))))
        else none)
      | none => none)) := QP4_94_eq L P4_94 (Classical.choose_spec XP4_94) x1 x1n x1c x15 x16 M
theorem QE4 (L : Rec) (b4_28 c4_17 c4_71 : ACode) (P4_17 : Rec → (Option Addr) → Nat → Nat → (Option Addr) → Nat → Nat → Nat → (Option Addr) → (Option Addr) → Nat → Nat → Bool → AMem → Res) (hP4_17 : P4_17 = fun (L : Rec) (x1 : Option Addr) (x1n : Nat) (x1c : Nat) (x2 : Option Addr) (x2n : Nat) (x2c : Nat) (x3 : Nat) (x7 : Option Addr) (x8 : Option Addr) (x8n : Nat) (x8c : Nat) (x49 : Bool) (M : AMem) => code L c4_17 (seqK (code L (.seq (.ops o4_23) (.seq (.seq (.ops o4_26) (.block 0 (.clear zl10 (.loop b4_28)))) (.clear zl15 c4_71))) (retK [.tmp 6])) (retK [.tmp 6])) (s4_17 x1 x1n x1c x2 x2n x2c x3 x7 x8 x8n x8c x49 M) M) (x0_0 : Int) (x0_1 : Int) (x1 : Option Addr) (x1n : Nat) (x1c : Nat) (x2 : Option Addr) (x2n : Nat) (x2c : Nat) (M : AMem) : enterF L ⟨163, [.tmp 6], .seq (.ops o4_1) (.seq (.seq (.ops o4_4) (.cond (.tmp 39) (.seq (.ops o4_7) (.ret)) (.skip))) (.seq (.ops o4_11) (.seq (.ops o4_13) (.seq (.seq (.ops o4_16) (.clear zl14 c4_17)) (.seq (.ops o4_23) (.seq (.seq (.ops o4_26) (.block 0 (.clear zl10 (.loop b4_28)))) (.clear zl15 c4_71)))))))⟩ [.agg #[.int .i64 x0_0, .int .i64 x0_1], .slice x1 x1n x1c, .slice x2 x2n x2c] M =
  (Option.bind (intOf? .i64 (AMem.ld (M ++ [AObj.cells [.int .i64 x0_0, .int .i64 x0_1] ⟨false, 0⟩]) (List.length M) 0)) fun x_1 =>
    (Option.bind (intOf? .i64 (AMem.ld (M ++ [AObj.cells [.int .i64 x0_0, .int .i64 x0_1] ⟨false, 0⟩]) (List.length M) 1)) fun x_2 =>
    (Option.bind (L.call 6 [.agg #[.int .i64 x_1, .int .i64 x_2]] []) fun r_3 =>
    (Option.bind (boolOf? (some r_3.1)) fun q_4 =>
    (if (!q_4) = true
    then (Option.bind (L.call 8 [] []) fun r_5 =>
      (Option.bind (boolOf? (some r_5.1)) fun q_6 =>
      some (.bool q_6, (M ++ [AObj.cells [.int .i64 x0_0, .int .i64 x0_1] ⟨false, 0⟩]))))
    else (Option.bind (intOf? .i64 (AMem.ld (M ++ [AObj.cells [.int .i64 x0_0, .int .i64 x0_1] ⟨false, 0⟩]) (List.length M) 0)) fun x_7 =>
      (if (decide (x_7 > 20)) = true
      then (Option.bind (L.call 8 [] []) fun r_8 =>
        (Option.bind (boolOf? (some r_8.1)) fun q_9 =>
        some (.bool q_9, (M ++ [AObj.cells [.int .i64 x0_0, .int .i64 x0_1] ⟨false, 0⟩]))))
      else (Option.bind (intOf? .i64 (AMem.ld (M ++ [AObj.cells [.int .i64 x0_0, .int .i64 x0_1] ⟨false, 0⟩]) (List.length M) 1)) fun x_10 =>
        (if (decide (x_10 > 5)) = true
        then (Option.bind (L.call 8 [] []) fun r_11 =>
          (Option.bind (boolOf? (some r_11.1)) fun q_12 =>
          some (.bool q_12, (M ++ [AObj.cells [.int .i64 x0_0, .int .i64 x0_1] ⟨false, 0⟩]))))
        else (Option.bind (L.call 7 [.slice x1 x1n x1c] (M ++ [AObj.cells [.int .i64 x0_0, .int .i64 x0_1] ⟨false, 0⟩])) fun r_13 =>
          (Option.bind (boolOf? (some r_13.1)) fun q_14 =>
          (if (!q_14) = true
          then (Option.bind (L.call 8 [] []) fun r_15 =>
            (Option.bind (boolOf? (some r_15.1)) fun q_16 =>
            some (.bool q_16, r_13.2)))
          else (if (decide ((Int.ofNat x2n) > 150)) = true
            then (Option.bind (L.call 8 [] []) fun r_17 =>
              (Option.bind (boolOf? (some r_17.1)) fun q_18 =>
              some (.bool q_18, r_13.2)))
            else (Option.bind (intOf? .i64 (AMem.ld r_13.2 (List.length M) 0)) fun x_19 =>
              (Option.bind (intOf? .i64 (AMem.ld r_13.2 (List.length M) 1)) fun x_20 =>
              (Option.bind (L.call 10 [.agg #[.int .i64 x_19, .int .i64 x_20]] []) fun r_21 =>
              (Option.bind (intOf? .i64 (some r_21.1)) fun x_22 =>
              (Option.bind (L.call 9 [.int .i64 x_22] r_13.2) fun r_23 =>
              (Option.bind (ptrOf? (some r_23.1)) fun p_24 =>
              (Option.bind (intOf? .i64 (AMem.ld r_23.2 (List.length M) 0)) fun x_25 =>
              (Option.bind (intOf? .i64 (AMem.ld r_23.2 (List.length M) 1)) fun x_26 =>
              (Option.bind (L.call 11 [.agg #[.int .i64 x_25, .int .i64 x_26], .slice x1 x1n x1c] r_23.2) fun r_27 =>
              (Option.bind (sliceOf? (some r_27.1)) fun s_28 =>
              P4_17 L x1 x1n x1c x2 x2n x2c (List.length M) p_24 s_28.1 s_28.2.1 s_28.2.2 ((Int.ofNat s_28.2.1) == 0) r_27.2))))))))))))))))))))))) := by
  subst hP4_17; kernel_rfl
theorem E4 (L : Rec) (x0_0 : Int) (x0_1 : Int) (x1 : Option Addr) (x1n : Nat) (x1c : Nat) (x2 : Option Addr) (x2n : Nat) (x2c : Nat) (M : AMem) : enterF L a4 [.agg #[.int .i64 x0_0, .int .i64 x0_1], .slice x1 x1n x1c, .slice x2 x2n x2c] M =
  (Option.bind (intOf? .i64 (AMem.ld (M ++ [AObj.cells [.int .i64 x0_0, .int .i64 x0_1] ⟨false, 0⟩]) (List.length M) 0)) fun x_1 =>
    (Option.bind (intOf? .i64 (AMem.ld (M ++ [AObj.cells [.int .i64 x0_0, .int .i64 x0_1] ⟨false, 0⟩]) (List.length M) 1)) fun x_2 =>
    (Option.bind (L.call 6 [.agg #[.int .i64 x_1, .int .i64 x_2]] []) fun r_3 =>
    (Option.bind (boolOf? (some r_3.1)) fun q_4 =>
    (if (!q_4) = true
    then (Option.bind (L.call 8 [] []) fun r_5 =>
      (Option.bind (boolOf? (some r_5.1)) fun q_6 =>
      some (.bool q_6, (M ++ [AObj.cells [.int .i64 x0_0, .int .i64 x0_1] ⟨false, 0⟩]))))
    else (Option.bind (intOf? .i64 (AMem.ld (M ++ [AObj.cells [.int .i64 x0_0, .int .i64 x0_1] ⟨false, 0⟩]) (List.length M) 0)) fun x_7 =>
      (if (decide (x_7 > 20)) = true
      then (Option.bind (L.call 8 [] []) fun r_8 =>
        (Option.bind (boolOf? (some r_8.1)) fun q_9 =>
        some (.bool q_9, (M ++ [AObj.cells [.int .i64 x0_0, .int .i64 x0_1] ⟨false, 0⟩]))))
      else (Option.bind (intOf? .i64 (AMem.ld (M ++ [AObj.cells [.int .i64 x0_0, .int .i64 x0_1] ⟨false, 0⟩]) (List.length M) 1)) fun x_10 =>
        (if (decide (x_10 > 5)) = true
        then (Option.bind (L.call 8 [] []) fun r_11 =>
          (Option.bind (boolOf? (some r_11.1)) fun q_12 =>
          some (.bool q_12, (M ++ [AObj.cells [.int .i64 x0_0, .int .i64 x0_1] ⟨false, 0⟩]))))
        else (Option.bind (L.call 7 [.slice x1 x1n x1c] (M ++ [AObj.cells [.int .i64 x0_0, .int .i64 x0_1] ⟨false, 0⟩])) fun r_13 =>
          (Option.bind (boolOf? (some r_13.1)) fun q_14 =>
          (if (!q_14) = true
          then (Option.bind (L.call 8 [] []) fun r_15 =>
            (Option.bind (boolOf? (some r_15.1)) fun q_16 =>
            some (.bool q_16, r_13.2)))
          else (if (decide ((Int.ofNat x2n) > 150)) = true
            then (Option.bind (L.call 8 [] []) fun r_17 =>
              (Option.bind (boolOf? (some r_17.1)) fun q_18 =>
              some (.bool q_18, r_13.2)))
            else (Option.bind (intOf? .i64 (AMem.ld r_13.2 (List.length M) 0)) fun x_19 =>
              (Option.bind (intOf? .i64 (AMem.ld r_13.2 (List.length M) 1)) fun x_20 =>
              (Option.bind (L.call 10 [.agg #[.int .i64 x_19, .int .i64 x_20]] []) fun r_21 =>
              (Option.bind (intOf? .i64 (some r_21.1)) fun x_22 =>
              (Option.bind (L.call 9 [.int .i64 x_22] r_13.2) fun r_23 =>
              (Option.bind (ptrOf? (some r_23.1)) fun p_24 =>
              (Option.bind (intOf? .i64 (AMem.ld r_23.2 (List.length M) 0)) fun x_25 =>
              (Option.bind (intOf? .i64 (AMem.ld r_23.2 (List.length M) 1)) fun x_26 =>
              (Option.bind (L.call 11 [.agg #[.int .i64 x_25, .int .i64 x_26], .slice x1 x1n x1c] r_23.2) fun r_27 =>
              (Option.bind (sliceOf? (some r_27.1)) fun s_28 =>
              P4_17 L x1 x1n x1c x2 x2n x2c (List.length M) p_24 s_28.1 s_28.2.1 s_28.2.2 ((Int.ofNat s_28.2.1) == 0) r_27.2))))))))))))))))))))))) := QE4 L b4_28 c4_17 c4_71 P4_17 (Classical.choose_spec XP4_17) x0_0 x0_1 x1 x1n x1c x2 x2n x2c M
end Go.Proofs.Ytmpgngilhhmlcaa
