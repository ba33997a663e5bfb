/- What the pieces of some functions come to. -/
import Derived.Test.YtmpgngilhhmlcaaCode
set_option linter.unusedVariables false
set_option maxRecDepth 100000
namespace Go.Proofs.Ytmpgngilhhmlcaa
open Go Go.Ax
/-! #### skylightlaw33.FlushOnce -/
noncomputable def k3_12 (L : Rec) : KT := retK [.tmp 6]
def s3_12 (x1 : Option Addr) (x1n : Nat) (x1c : Nat) (x2 : Option Addr) (x2n : Nat) (x2c : Nat) (x3 : Nat) (x7 : Option Addr) (M : AMem) : List Value := [junk, .slice x1 x1n x1c, .slice x2 x2n x2c, .pointer (some ⟨x3, 0, none⟩), junk, junk, junk, .pointer x7, junk, junk, junk, junk, junk, junk, junk, junk, junk, junk, junk, junk, junk, junk, junk, junk, junk, junk, junk, junk, junk, junk, junk, junk, junk, junk, junk, junk, junk, junk, junk, junk, junk, junk, junk, junk, junk, junk, junk, junk, junk, junk, junk, junk, junk, junk, junk, junk, junk, junk, junk, junk, junk, junk, junk, junk, junk, junk, junk, junk, junk, junk, junk, junk, junk, junk, junk, junk, junk, junk, junk, junk, junk, junk, junk, junk, junk, junk, junk, junk, junk, junk, junk, junk, junk, junk, junk, junk, junk, junk, junk, junk, junk, junk, junk, junk, junk, junk, junk, junk, junk, junk, junk, junk, junk, junk, junk, junk, junk, junk, junk, junk, junk, junk, junk, junk, junk, junk, junk, junk, junk, junk, junk, junk, junk, junk, junk, junk, junk, junk, junk, junk, junk, junk, junk, junk, junk, junk, junk, junk, junk, junk, junk, junk, junk, junk, junk, junk, junk, junk, junk, junk, junk, junk, junk, junk, junk, junk, junk, junk, junk, junk, junk, junk, junk, junk, junk, junk, junk, junk, junk, junk, junk, junk, junk, junk, junk, junk, junk, junk, junk, junk, junk, junk, junk, junk, junk]
theorem XP3_12 : ∃ P : Rec → (Option Addr) → Nat → Nat → (Option Addr) → Nat → Nat → Nat → (Option Addr) → AMem → Res, P = fun (L : Rec) (x1 : Option Addr) (x1n : Nat) (x1c : Nat) (x2 : Option Addr) (x2n : Nat) (x2c : Nat) (x3 : Nat) (x7 : Option Addr) (M : AMem) => code L c3_12 (k3_12 L) (s3_12 x1 x1n x1c x2 x2n x2c x3 x7 M) M := ⟨_, rfl⟩
noncomputable def P3_12 : Rec → (Option Addr) → Nat → Nat → (Option Addr) → Nat → Nat → Nat → (Option Addr) → AMem → Res := Classical.choose XP3_12
noncomputable def k3_22 (L : Rec) : KT := blockK 0 (seqK (code L (.clear zl7 c3_56) (retK [.tmp 6])) (retK [.tmp 6]))
def s3_22 (x1 : Option Addr) (x1n : Nat) (x1c : Nat) (x2 : Option Addr) (x2n : Nat) (x2c : Nat) (x3 : Nat) (x7 : Option Addr) (x8 : Option Addr) (x8n : Nat) (x8c : Nat) (x9 : Nat) (x9n : Nat) (x10 : Int) (x11 : Int) (M : AMem) : List Value := [junk, .slice x1 x1n x1c, .slice x2 x2n x2c, .pointer (some ⟨x3, 0, none⟩), junk, junk, junk, .pointer x7, .slice x8 x8n x8c, .slice (some ⟨x9, 0, none⟩) x9n 1, .int .i64 x10, .int .i64 x11, junk, junk, junk, junk, junk, junk, junk, junk, junk, junk, junk, junk, junk, junk, junk, junk, junk, junk, junk, junk, junk, junk, junk, junk, junk, junk, junk, junk, junk, junk, junk, junk, junk, junk, junk, junk, junk, junk, junk, junk, junk, junk, junk, junk, junk, junk, junk, junk, junk, junk, junk, junk, junk, junk, junk, junk, junk, junk, junk, junk, junk, junk, junk, junk, junk, junk, junk, junk, junk, junk, junk, junk, junk, junk, junk, junk, junk, junk, junk, junk, junk, junk, junk, junk, junk, junk, junk, junk, junk, junk, junk, junk, junk, junk, junk, junk, junk, junk, junk, junk, junk, junk, junk, junk, junk, junk, junk, junk, junk, junk, junk, junk, junk, junk, junk, junk, junk, junk, junk, junk, junk, junk, junk, junk, junk, junk, junk, junk, junk, junk, junk, junk, junk, junk, junk, junk, junk, junk, junk, junk, junk, junk, junk, junk, junk, junk, junk, junk, junk, junk, junk, junk, junk, junk, junk, junk, junk, junk, junk, junk, junk, junk, junk, junk, junk, junk, junk, junk, junk, junk, junk, junk, junk, junk, junk, junk, junk, junk, junk, junk, junk, junk, junk]
theorem XP3_22 : ∃ P : Rec → (Option Addr) → Nat → Nat → (Option Addr) → Nat → Nat → Nat → (Option Addr) → (Option Addr) → Nat → Nat → Nat → Nat → Int → Int → AMem → Res, P = fun (L : Rec) (x1 : Option Addr) (x1n : Nat) (x1c : Nat) (x2 : Option Addr) (x2n : Nat) (x2c : Nat) (x3 : Nat) (x7 : Option Addr) (x8 : Option Addr) (x8n : Nat) (x8c : Nat) (x9 : Nat) (x9n : Nat) (x10 : Int) (x11 : Int) (M : AMem) => L.loop b3_22 (k3_22 L) (s3_22 x1 x1n x1c x2 x2n x2c x3 x7 x8 x8n x8c x9 x9n x10 x11 M) M := ⟨_, rfl⟩
noncomputable def P3_22 : Rec → (Option Addr) → Nat → Nat → (Option Addr) → Nat → Nat → Nat → (Option Addr) → (Option Addr) → Nat → Nat → Nat → Nat → Int → Int → AMem → Res := Classical.choose XP3_22
noncomputable def k3_33 (L : Rec) : KT := blockK 1 (seqK (code L (.clear zl2 c3_55) (postK zl2 (loopK L b3_22 (blockK 0 (seqK (code L (.clear zl7 c3_56) (retK [.tmp 6])) (retK [.tmp 6])))))) (postK zl2 (loopK L b3_22 (blockK 0 (seqK (code L (.clear zl7 c3_56) (retK [.tmp 6])) (retK [.tmp 6]))))))
def s3_33 (x1 : Option Addr) (x1n : Nat) (x1c : Nat) (x2 : Option Addr) (x2n : Nat) (x2c : Nat) (x3 : Nat) (x7 : Option Addr) (x8 : Option Addr) (x8n : Nat) (x8c : Nat) (x9 : Nat) (x9n : Nat) (x10 : Int) (x11 : Int) (x12 : Nat) (x13 : Bool) (M : AMem) : List Value := [junk, .slice x1 x1n x1c, .slice x2 x2n x2c, .pointer (some ⟨x3, 0, none⟩), junk, junk, junk, .pointer x7, .slice x8 x8n x8c, .slice (some ⟨x9, 0, none⟩) x9n 1, .int .i64 x10, .int .i64 x11, .pointer (some ⟨x12, 0, none⟩), .bool x13, junk, junk, junk, junk, junk, junk, junk, junk, junk, junk, junk, junk, junk, junk, junk, junk, junk, junk, junk, junk, junk, junk, junk, junk, junk, junk, junk, junk, junk, junk, junk, junk, junk, junk, junk, junk, junk, junk, junk, junk, junk, junk, junk, junk, junk, junk, junk, junk, junk, junk, junk, junk, junk, junk, junk, junk, junk, junk, junk, junk, junk, junk, junk, junk, junk, junk, junk, junk, junk, junk, junk, junk, junk, junk, junk, junk, junk, junk, junk, junk, junk, junk, junk, junk, junk, junk, junk, junk, junk, junk, junk, junk, junk, junk, junk, junk, junk, junk, junk, junk, junk, junk, junk, junk, junk, junk, junk, junk, junk, junk, junk, junk, junk, junk, junk, junk, junk, junk, junk, junk, junk, junk, junk, junk, junk, junk, junk, junk, junk, junk, junk, junk, junk, junk, junk, junk, junk, junk, junk, junk, junk, junk, junk, junk, junk, junk, junk, junk, junk, junk, junk, junk, junk, junk, junk, junk, junk, junk, junk, junk, junk, junk, junk, junk, junk, junk, junk, junk, junk, junk, junk, junk, junk, junk, junk, junk, junk, junk, junk, junk, junk]
theorem XP3_33 : ∃ P : Rec → (Option Addr) → Nat → Nat → (Option Addr) → Nat → Nat → Nat → (Option Addr) → (Option Addr) → Nat → Nat → Nat → Nat → Int → Int → Nat → Bool → AMem → Res, P = fun (L : Rec) (x1 : Option Addr) (x1n : Nat) (x1c : Nat) (x2 : Option Addr) (x2n : Nat) (x2c : Nat) (x3 : Nat) (x7 : Option Addr) (x8 : Option Addr) (x8n : Nat) (x8c : Nat) (x9 : Nat) (x9n : Nat) (x10 : Int) (x11 : Int) (x12 : Nat) (x13 : Bool) (M : AMem) => code L c3_33 (k3_33 L) (s3_33 x1 x1n x1c x2 x2n x2c x3 x7 x8 x8n x8c x9 x9n x10 x11 x12 x13 M) M := ⟨_, rfl⟩
noncomputable def P3_33 : Rec → (Option Addr) → Nat → Nat → (Option Addr) → Nat → Nat → Nat → (Option Addr) → (Option Addr) → Nat → Nat → Nat → Nat → Int → Int → Nat → Bool → AMem → Res := Classical.choose XP3_33
noncomputable def k3_56 (L : Rec) : KT := retK [.tmp 6]
def s3_56 (x2 : Option Addr) (x2n : Nat) (x2c : Nat) (x7 : Option Addr) (x8 : Option Addr) (x8n : Nat) (x8c : Nat) (x9 : Nat) (x9n : Nat) (x10 : Int) (M : AMem) : List Value := [junk, junk, .slice x2 x2n x2c, junk, junk, junk, junk, .pointer x7, .slice x8 x8n x8c, .slice (some ⟨x9, 0, none⟩) x9n 1, .int .i64 x10, junk, junk, junk, junk, junk, junk, junk, junk, junk, junk, junk, junk, junk, junk, junk, junk, junk, junk, junk, junk, junk, junk, junk, junk, junk, junk, junk, junk, junk, junk, junk, junk, junk, junk, junk, junk, junk, junk, junk, junk, junk, junk, junk, junk, junk, junk, junk, junk, junk, junk, junk, junk, junk, junk, junk, junk, junk, junk, junk, junk, junk, junk, junk, junk, junk, junk, junk, junk, junk, junk, junk, junk, junk, junk, junk, junk, junk, junk, junk, junk, junk, junk, junk, junk, junk, junk, junk, junk, junk, junk, junk, junk, junk, junk, junk, junk, junk, junk, junk, junk, junk, junk, junk, junk, junk, junk, junk, junk, junk, junk, junk, junk, junk, junk, junk, junk, junk, junk, junk, junk, junk, junk, junk, junk, junk, junk, junk, junk, junk, junk, junk, junk, junk, junk, junk, junk, junk, junk, junk, junk, junk, junk, junk, junk, junk, junk, junk, junk, junk, junk, junk, junk, junk, junk, junk, junk, junk, junk, junk, junk, junk, junk, junk, junk, junk, junk, junk, junk, junk, junk, junk, junk, junk, junk, junk, junk, junk, junk, junk, junk, junk, junk, junk, junk]
theorem XP3_56 : ∃ P : Rec → (Option Addr) → Nat → Nat → (Option Addr) → (Option Addr) → Nat → Nat → Nat → Nat → Int → AMem → Res, P = fun (L : Rec) (x2 : Option Addr) (x2n : Nat) (x2c : Nat) (x7 : Option Addr) (x8 : Option Addr) (x8n : Nat) (x8c : Nat) (x9 : Nat) (x9n : Nat) (x10 : Int) (M : AMem) => code L c3_56 (k3_56 L) (s3_56 x2 x2n x2c x7 x8 x8n x8c x9 x9n x10 M) M := ⟨_, rfl⟩
noncomputable def P3_56 : Rec → (Option Addr) → Nat → Nat → (Option Addr) → (Option Addr) → Nat → Nat → Nat → Nat → Int → AMem → Res := Classical.choose XP3_56
noncomputable def k3_55 (L : Rec) : KT := postK zl2 (loopK L b3_22 (blockK 0 (seqK (code L (.clear zl7 c3_56) (retK [.tmp 6])) (retK [.tmp 6]))))
def s3_55 (x1 : Option Addr) (x1n : Nat) (x1c : Nat) (x2 : Option Addr) (x2n : Nat) (x2c : Nat) (x3 : Nat) (x7 : Option Addr) (x8 : Option Addr) (x8n : Nat) (x8c : Nat) (x9 : Nat) (x9n : Nat) (x10 : Int) (x11 : Int) (M : AMem) : List Value := [junk, .slice x1 x1n x1c, .slice x2 x2n x2c, .pointer (some ⟨x3, 0, none⟩), junk, junk, junk, .pointer x7, .slice x8 x8n x8c, .slice (some ⟨x9, 0, none⟩) x9n 1, .int .i64 x10, .int .i64 x11, junk, junk, junk, junk, junk, junk, junk, junk, junk, junk, junk, junk, junk, junk, junk, junk, junk, junk, junk, junk, junk, junk, junk, junk, junk, junk, junk, junk, junk, junk, junk, junk, junk, junk, junk, junk, junk, junk, junk, junk, junk, junk, junk, junk, junk, junk, junk, junk, junk, junk, junk, junk, junk, junk, junk, junk, junk, junk, junk, junk, junk, junk, junk, junk, junk, junk, junk, junk, junk, junk, junk, junk, junk, junk, junk, junk, junk, junk, junk, junk, junk, junk, junk, junk, junk, junk, junk, junk, junk, junk, junk, junk, junk, junk, junk, junk, junk, junk, junk, junk, junk, junk, junk, junk, junk, junk, junk, junk, junk, junk, junk, junk, junk, junk, junk, junk, junk, junk, junk, junk, junk, junk, junk, junk, junk, junk, junk, junk, junk, junk, junk, junk, junk, junk, junk, junk, junk, junk, junk, junk, junk, junk, junk, junk, junk, junk, junk, junk, junk, junk, junk, junk, junk, junk, junk, junk, junk, junk, junk, junk, junk, junk, junk, junk, junk, junk, junk, junk, junk, junk, junk, junk, junk, junk, junk, junk, junk, junk, junk, junk, junk, junk, junk]
theorem XP3_55 : ∃ P : Rec → (Option Addr) → Nat → Nat → (Option Addr) → Nat → Nat → Nat → (Option Addr) → (Option Addr) → Nat → Nat → Nat → Nat → Int → Int → AMem → Res, P = fun (L : Rec) (x1 : Option Addr) (x1n : Nat) (x1c : Nat) (x2 : Option Addr) (x2n : Nat) (x2c : Nat) (x3 : Nat) (x7 : Option Addr) (x8 : Option Addr) (x8n : Nat) (x8c : Nat) (x9 : Nat) (x9n : Nat) (x10 : Int) (x11 : Int) (M : AMem) => code L c3_55 (k3_55 L) (s3_55 x1 x1n x1c x2 x2n x2c x3 x7 x8 x8n x8c x9 x9n x10 x11 M) M := ⟨_, rfl⟩
noncomputable def P3_55 : Rec → (Option Addr) → Nat → Nat → (Option Addr) → Nat → Nat → Nat → (Option Addr) → (Option Addr) → Nat → Nat → Nat → Nat → Int → Int → AMem → Res := Classical.choose XP3_55
noncomputable def k3_44 (L : Rec) : KT := blockK 2 (blockK 1 (seqK (code L (.clear zl2 c3_55) (postK zl2 (loopK L b3_22 (blockK 0 (seqK (code L (.clear zl7 c3_56) (retK [.tmp 6])) (retK [.tmp 6])))))) (postK zl2 (loopK L b3_22 (blockK 0 (seqK (code L (.clear zl7 c3_56) (retK [.tmp 6])) (retK [.tmp 6])))))))
def s3_44 (x1 : Option Addr) (x1n : Nat) (x1c : Nat) (x2 : Option Addr) (x2n : Nat) (x2c : Nat) (x3 : Nat) (x7 : Option Addr) (x8 : Option Addr) (x8n : Nat) (x8c : Nat) (x9 : Nat) (x9n : Nat) (x10 : Int) (x11 : Int) (x12 : Nat) (x14 : Int) (M : AMem) : List Value := [junk, .slice x1 x1n x1c, .slice x2 x2n x2c, .pointer (some ⟨x3, 0, none⟩), junk, junk, junk, .pointer x7, .slice x8 x8n x8c, .slice (some ⟨x9, 0, none⟩) x9n 1, .int .i64 x10, .int .i64 x11, .pointer (some ⟨x12, 0, none⟩), junk, .int .i64 x14, junk, junk, junk, junk, junk, junk, junk, junk, junk, junk, junk, junk, junk, junk, junk, junk, junk, junk, junk, junk, junk, junk, junk, junk, junk, junk, junk, junk, junk, junk, junk, junk, junk, junk, junk, junk, junk, junk, junk, junk, junk, junk, junk, junk, junk, junk, junk, junk, junk, junk, junk, junk, junk, junk, junk, junk, junk, junk, junk, junk, junk, junk, junk, junk, junk, junk, junk, junk, junk, junk, junk, junk, junk, junk, junk, junk, junk, junk, junk, junk, junk, junk, junk, junk, junk, junk, junk, junk, junk, junk, junk, junk, junk, junk, junk, junk, junk, junk, junk, junk, junk, junk, junk, junk, junk, junk, junk, junk, junk, junk, junk, junk, junk, junk, junk, junk, junk, junk, junk, junk, junk, junk, junk, junk, junk, junk, junk, junk, junk, junk, junk, junk, junk, junk, junk, junk, junk, junk, junk, junk, junk, junk, junk, junk, junk, junk, junk, junk, junk, junk, junk, junk, junk, junk, junk, junk, junk, junk, junk, junk, junk, junk, junk, junk, junk, junk, junk, junk, junk, junk, junk, junk, junk, junk, junk, junk, junk, junk, junk, junk]
theorem XP3_44 : ∃ P : Rec → (Option Addr) → Nat → Nat → (Option Addr) → Nat → Nat → Nat → (Option Addr) → (Option Addr) → Nat → Nat → Nat → Nat → Int → Int → Nat → Int → AMem → Res, P = fun (L : Rec) (x1 : Option Addr) (x1n : Nat) (x1c : Nat) (x2 : Option Addr) (x2n : Nat) (x2c : Nat) (x3 : Nat) (x7 : Option Addr) (x8 : Option Addr) (x8n : Nat) (x8c : Nat) (x9 : Nat) (x9n : Nat) (x10 : Int) (x11 : Int) (x12 : Nat) (x14 : Int) (M : AMem) => L.loop b3_44 (k3_44 L) (s3_44 x1 x1n x1c x2 x2n x2c x3 x7 x8 x8n x8c x9 x9n x10 x11 x12 x14 M) M := ⟨_, rfl⟩
noncomputable def P3_44 : Rec → (Option Addr) → Nat → Nat → (Option Addr) → Nat → Nat → Nat → (Option Addr) → (Option Addr) → Nat → Nat → Nat → Nat → Int → Int → Nat → Int → AMem → Res := Classical.choose XP3_44
noncomputable def k3_60 (L : Rec) : KT := blockK 4 (seqK (code L (.clear zl6 c3_71) (retK [.tmp 6])) (retK [.tmp 6]))
def s3_60 (x2 : Option Addr) (x2n : Nat) (x2c : Nat) (x7 : Option Addr) (x8 : Option Addr) (x8n : Nat) (x8c : Nat) (x9 : Nat) (x9n : Nat) (x10 : Int) (x15 : Int) (M : AMem) : List Value := [junk, junk, .slice x2 x2n x2c, junk, junk, junk, junk, .pointer x7, .slice x8 x8n x8c, .slice (some ⟨x9, 0, none⟩) x9n 1, .int .i64 x10, junk, junk, junk, junk, .int .i64 x15, junk, junk, junk, junk, junk, junk, junk, junk, junk, junk, junk, junk, junk, junk, junk, junk, junk, junk, junk, junk, junk, junk, junk, junk, junk, junk, junk, junk, junk, junk, junk, junk, junk, junk, junk, junk, junk, junk, junk, junk, junk, junk, junk, junk, junk, junk, junk, junk, junk, junk, junk, junk, junk, junk, junk, junk, junk, junk, junk, junk, junk, junk, junk, junk, junk, junk, junk, junk, junk, junk, junk, junk, junk, junk, junk, junk, junk, junk, junk, junk, junk, junk, junk, junk, junk, junk, junk, junk, junk, junk, junk, junk, junk, junk, junk, junk, junk, junk, junk, junk, junk, junk, junk, junk, junk, junk, junk, junk, junk, junk, junk, junk, junk, junk, junk, junk, junk, junk, junk, junk, junk, junk, junk, junk, junk, junk, junk, junk, junk, junk, junk, junk, junk, junk, junk, junk, junk, junk, junk, junk, junk, junk, junk, junk, junk, junk, junk, junk, junk, junk, junk, junk, junk, junk, junk, junk, junk, junk, junk, junk, junk, junk, junk, junk, junk, junk, junk, junk, junk, junk, junk, junk, junk, junk, junk, junk, junk, junk, junk]
theorem XP3_60 : ∃ P : Rec → (Option Addr) → Nat → Nat → (Option Addr) → (Option Addr) → Nat → Nat → Nat → Nat → Int → Int → AMem → Res, P = fun (L : Rec) (x2 : Option Addr) (x2n : Nat) (x2c : Nat) (x7 : Option Addr) (x8 : Option Addr) (x8n : Nat) (x8c : Nat) (x9 : Nat) (x9n : Nat) (x10 : Int) (x15 : Int) (M : AMem) => L.loop b3_60 (k3_60 L) (s3_60 x2 x2n x2c x7 x8 x8n x8c x9 x9n x10 x15 M) M := ⟨_, rfl⟩
noncomputable def P3_60 : Rec → (Option Addr) → Nat → Nat → (Option Addr) → (Option Addr) → Nat → Nat → Nat → Nat → Int → Int → AMem → Res := Classical.choose XP3_60
noncomputable def k3_54 (L : Rec) : KT := postK zl0 (loopK L b3_44 (blockK 2 (blockK 1 (seqK (code L (.clear zl2 c3_55) (postK zl2 (loopK L b3_22 (blockK 0 (seqK (code L (.clear zl7 c3_56) (retK [.tmp 6])) (retK [.tmp 6])))))) (postK zl2 (loopK L b3_22 (blockK 0 (seqK (code L (.clear zl7 c3_56) (retK [.tmp 6])) (retK [.tmp 6])))))))))
def s3_54 (x1 : Option Addr) (x1n : Nat) (x1c : Nat) (x2 : Option Addr) (x2n : Nat) (x2c : Nat) (x3 : Nat) (x7 : Option Addr) (x8 : Option Addr) (x8n : Nat) (x8c : Nat) (x9 : Nat) (x9n : Nat) (x10 : Int) (x11 : Int) (x12 : Nat) (x14 : Int) (M : AMem) : List Value := [junk, .slice x1 x1n x1c, .slice x2 x2n x2c, .pointer (some ⟨x3, 0, none⟩), junk, junk, junk, .pointer x7, .slice x8 x8n x8c, .slice (some ⟨x9, 0, none⟩) x9n 1, .int .i64 x10, .int .i64 x11, .pointer (some ⟨x12, 0, none⟩), junk, .int .i64 x14, junk, junk, junk, junk, junk, junk, junk, junk, junk, junk, junk, junk, junk, junk, junk, junk, junk, junk, junk, junk, junk, junk, junk, junk, junk, junk, junk, junk, junk, junk, junk, junk, junk, junk, junk, junk, junk, junk, junk, junk, junk, junk, junk, junk, junk, junk, junk, junk, junk, junk, junk, junk, junk, junk, junk, junk, junk, junk, junk, junk, junk, junk, junk, junk, junk, junk, junk, junk, junk, junk, junk, junk, junk, junk, junk, junk, junk, junk, junk, junk, junk, junk, junk, junk, junk, junk, junk, junk, junk, junk, junk, junk, junk, junk, junk, junk, junk, junk, junk, junk, junk, junk, junk, junk, junk, junk, junk, junk, junk, junk, junk, junk, junk, junk, junk, junk, junk, junk, junk, junk, junk, junk, junk, junk, junk, junk, junk, junk, junk, junk, junk, junk, junk, junk, junk, junk, junk, junk, junk, junk, junk, junk, junk, junk, junk, junk, junk, junk, junk, junk, junk, junk, junk, junk, junk, junk, junk, junk, junk, junk, junk, junk, junk, junk, junk, junk, junk, junk, junk, junk, junk, junk, junk, junk, junk, junk, junk, junk, junk, junk]
theorem XP3_54 : ∃ P : Rec → (Option Addr) → Nat → Nat → (Option Addr) → Nat → Nat → Nat → (Option Addr) → (Option Addr) → Nat → Nat → Nat → Nat → Int → Int → Nat → Int → AMem → Res, P = fun (L : Rec) (x1 : Option Addr) (x1n : Nat) (x1c : Nat) (x2 : Option Addr) (x2n : Nat) (x2c : Nat) (x3 : Nat) (x7 : Option Addr) (x8 : Option Addr) (x8n : Nat) (x8c : Nat) (x9 : Nat) (x9n : Nat) (x10 : Int) (x11 : Int) (x12 : Nat) (x14 : Int) (M : AMem) => code L c3_54 (k3_54 L) (s3_54 x1 x1n x1c x2 x2n x2c x3 x7 x8 x8n x8c x9 x9n x10 x11 x12 x14 M) M := ⟨_, rfl⟩
noncomputable def P3_54 : Rec → (Option Addr) → Nat → Nat → (Option Addr) → Nat → Nat → Nat → (Option Addr) → (Option Addr) → Nat → Nat → Nat → Nat → Int → Int → Nat → Int → AMem → Res := Classical.choose XP3_54
noncomputable def k3_70 (L : Rec) : KT := postK zl3 (loopK L b3_60 (blockK 4 (seqK (code L (.clear zl6 c3_71) (retK [.tmp 6])) (retK [.tmp 6]))))
def s3_70 (x2 : Option Addr) (x2n : Nat) (x2c : Nat) (x7 : Option Addr) (x8 : Option Addr) (x8n : Nat) (x8c : Nat) (x9 : Nat) (x9n : Nat) (x10 : Int) (x15 : Int) (M : AMem) : List Value := [junk, junk, .slice x2 x2n x2c, junk, junk, junk, junk, .pointer x7, .slice x8 x8n x8c, .slice (some ⟨x9, 0, none⟩) x9n 1, .int .i64 x10, junk, junk, junk, junk, .int .i64 x15, junk, junk, junk, junk, junk, junk, junk, junk, junk, junk, junk, junk, junk, junk, junk, junk, junk, junk, junk, junk, junk, junk, junk, junk, junk, junk, junk, junk, junk, junk, junk, junk, junk, junk, junk, junk, junk, junk, junk, junk, junk, junk, junk, junk, junk, junk, junk, junk, junk, junk, junk, junk, junk, junk, junk, junk, junk, junk, junk, junk, junk, junk, junk, junk, junk, junk, junk, junk, junk, junk, junk, junk, junk, junk, junk, junk, junk, junk, junk, junk, junk, junk, junk, junk, junk, junk, junk, junk, junk, junk, junk, junk, junk, junk, junk, junk, junk, junk, junk, junk, junk, junk, junk, junk, junk, junk, junk, junk, junk, junk, junk, junk, junk, junk, junk, junk, junk, junk, junk, junk, junk, junk, junk, junk, junk, junk, junk, junk, junk, junk, junk, junk, junk, junk, junk, junk, junk, junk, junk, junk, junk, junk, junk, junk, junk, junk, junk, junk, junk, junk, junk, junk, junk, junk, junk, junk, junk, junk, junk, junk, junk, junk, junk, junk, junk, junk, junk, junk, junk, junk, junk, junk, junk, junk, junk, junk, junk, junk, junk]
theorem XP3_70 : ∃ P : Rec → (Option Addr) → Nat → Nat → (Option Addr) → (Option Addr) → Nat → Nat → Nat → Nat → Int → Int → AMem → Res, P = fun (L : Rec) (x2 : Option Addr) (x2n : Nat) (x2c : Nat) (x7 : Option Addr) (x8 : Option Addr) (x8n : Nat) (x8c : Nat) (x9 : Nat) (x9n : Nat) (x10 : Int) (x15 : Int) (M : AMem) => code L c3_70 (k3_70 L) (s3_70 x2 x2n x2c x7 x8 x8n x8c x9 x9n x10 x15 M) M := ⟨_, rfl⟩
noncomputable def P3_70 : Rec → (Option Addr) → Nat → Nat → (Option Addr) → (Option Addr) → Nat → Nat → Nat → Nat → Int → Int → AMem → Res := Classical.choose XP3_70
noncomputable def k3_71 (L : Rec) : KT := retK [.tmp 6]
def s3_71 (x7 : Option Addr) (x8 : Option Addr) (x8n : Nat) (x8c : Nat) (x9 : Nat) (x9n : Nat) (x10 : Int) (M : AMem) : List Value := [junk, junk, junk, junk, junk, junk, junk, .pointer x7, .slice x8 x8n x8c, .slice (some ⟨x9, 0, none⟩) x9n 1, .int .i64 x10, junk, junk, junk, junk, junk, junk, junk, junk, junk, junk, junk, junk, junk, junk, junk, junk, junk, junk, junk, junk, junk, junk, junk, junk, junk, junk, junk, junk, junk, junk, junk, junk, junk, junk, junk, junk, junk, junk, junk, junk, junk, junk, junk, junk, junk, junk, junk, junk, junk, junk, junk, junk, junk, junk, junk, junk, junk, junk, junk, junk, junk, junk, junk, junk, junk, junk, junk, junk, junk, junk, junk, junk, junk, junk, junk, junk, junk, junk, junk, junk, junk, junk, junk, junk, junk, junk, junk, junk, junk, junk, junk, junk, junk, junk, junk, junk, junk, junk, junk, junk, junk, junk, junk, junk, junk, junk, junk, junk, junk, junk, junk, junk, junk, junk, junk, junk, junk, junk, junk, junk, junk, junk, junk, junk, junk, junk, junk, junk, junk, junk, junk, junk, junk, junk, junk, junk, junk, junk, junk, junk, junk, junk, junk, junk, junk, junk, junk, junk, junk, junk, junk, junk, junk, junk, junk, junk, junk, junk, junk, junk, junk, junk, junk, junk, junk, junk, junk, junk, junk, junk, junk, junk, junk, junk, junk, junk, junk, junk, junk, junk, junk, junk, junk, junk]
theorem XP3_71 : ∃ P : Rec → (Option Addr) → (Option Addr) → Nat → Nat → Nat → Nat → Int → AMem → Res, P = fun (L : Rec) (x7 : Option Addr) (x8 : Option Addr) (x8n : Nat) (x8c : Nat) (x9 : Nat) (x9n : Nat) (x10 : Int) (M : AMem) => code L c3_71 (k3_71 L) (s3_71 x7 x8 x8n x8c x9 x9n x10 M) M := ⟨_, rfl⟩
noncomputable def P3_71 : Rec → (Option Addr) → (Option Addr) → Nat → Nat → Nat → Nat → Int → AMem → Res := Classical.choose XP3_71
noncomputable def k3_75 (L : Rec) : KT := blockK 6 (seqK (code L (.clear zl6 c3_105) (retK [.tmp 6])) (retK [.tmp 6]))
def s3_75 (x7 : Option Addr) (x8 : Option Addr) (x8n : Nat) (x8c : Nat) (x9 : Nat) (x9n : Nat) (x10 : Int) (x16 : Int) (M : AMem) : List Value := [junk, junk, junk, junk, junk, junk, junk, .pointer x7, .slice x8 x8n x8c, .slice (some ⟨x9, 0, none⟩) x9n 1, .int .i64 x10, junk, junk, junk, junk, junk, .int .i64 x16, junk, junk, junk, junk, junk, junk, junk, junk, junk, junk, junk, junk, junk, junk, junk, junk, junk, junk, junk, junk, junk, junk, junk, junk, junk, junk, junk, junk, junk, junk, junk, junk, junk, junk, junk, junk, junk, junk, junk, junk, junk, junk, junk, junk, junk, junk, junk, junk, junk, junk, junk, junk, junk, junk, junk, junk, junk, junk, junk, junk, junk, junk, junk, junk, junk, junk, junk, junk, junk, junk, junk, junk, junk, junk, junk, junk, junk, junk, junk, junk, junk, junk, junk, junk, junk, junk, junk, junk, junk, junk, junk, junk, junk, junk, junk, junk, junk, junk, junk, junk, junk, junk, junk, junk, junk, junk, junk, junk, junk, junk, junk, junk, junk, junk, junk, junk, junk, junk, junk, junk, junk, junk, junk, junk, junk, junk, junk, junk, junk, junk, junk, junk, junk, junk, junk, junk, junk, junk, junk, junk, junk, junk, junk, junk, junk, junk, junk, junk, junk, junk, junk, junk, junk, junk, junk, junk, junk, junk, junk, junk, junk, junk, junk, junk, junk, junk, junk, junk, junk, junk, junk, junk, junk, junk, junk, junk, junk, junk]
theorem XP3_75 : ∃ P : Rec → (Option Addr) → (Option Addr) → Nat → Nat → Nat → Nat → Int → Int → AMem → Res, P = fun (L : Rec) (x7 : Option Addr) (x8 : Option Addr) (x8n : Nat) (x8c : Nat) (x9 : Nat) (x9n : Nat) (x10 : Int) (x16 : Int) (M : AMem) => L.loop b3_75 (k3_75 L) (s3_75 x7 x8 x8n x8c x9 x9n x10 x16 M) M := ⟨_, rfl⟩
noncomputable def P3_75 : Rec → (Option Addr) → (Option Addr) → Nat → Nat → Nat → Nat → Int → Int → AMem → Res := Classical.choose XP3_75
noncomputable def k3_88 (L : Rec) : KT := blockK 8 (seqK (code L (.clear zl4 c3_97) (blockK 7 (seqK (code L (.clear zl5 c3_104) (postK zl5 (loopK L b3_75 (blockK 6 (seqK (code L (.clear zl6 c3_105) (retK [.tmp 6])) (retK [.tmp 6])))))) (postK zl5 (loopK L b3_75 (blockK 6 (seqK (code L (.clear zl6 c3_105) (retK [.tmp 6])) (retK [.tmp 6])))))))) (blockK 7 (seqK (code L (.clear zl5 c3_104) (postK zl5 (loopK L b3_75 (blockK 6 (seqK (code L (.clear zl6 c3_105) (retK [.tmp 6])) (retK [.tmp 6])))))) (postK zl5 (loopK L b3_75 (blockK 6 (seqK (code L (.clear zl6 c3_105) (retK [.tmp 6])) (retK [.tmp 6]))))))))
def s3_88 (x7 : Option Addr) (x8 : Option Addr) (x8n : Nat) (x8c : Nat) (x9 : Nat) (x9n : Nat) (x10 : Int) (x16 : Int) (x17 : Int) (x18 : Int) (M : AMem) : List Value := [junk, junk, junk, junk, junk, junk, junk, .pointer x7, .slice x8 x8n x8c, .slice (some ⟨x9, 0, none⟩) x9n 1, .int .i64 x10, junk, junk, junk, junk, junk, .int .i64 x16, .int .i64 x17, .int .i64 x18, junk, junk, junk, junk, junk, junk, junk, junk, junk, junk, junk, junk, junk, junk, junk, junk, junk, junk, junk, junk, junk, junk, junk, junk, junk, junk, junk, junk, junk, junk, junk, junk, junk, junk, junk, junk, junk, junk, junk, junk, junk, junk, junk, junk, junk, junk, junk, junk, junk, junk, junk, junk, junk, junk, junk, junk, junk, junk, junk, junk, junk, junk, junk, junk, junk, junk, junk, junk, junk, junk, junk, junk, junk, junk, junk, junk, junk, junk, junk, junk, junk, junk, junk, junk, junk, junk, junk, junk, junk, junk, junk, junk, junk, junk, junk, junk, junk, junk, junk, junk, junk, junk, junk, junk, junk, junk, junk, junk, junk, junk, junk, junk, junk, junk, junk, junk, junk, junk, junk, junk, junk, junk, junk, junk, junk, junk, junk, junk, junk, junk, junk, junk, junk, junk, junk, junk, junk, junk, junk, junk, junk, junk, junk, junk, junk, junk, junk, junk, junk, junk, junk, junk, junk, junk, junk, junk, junk, junk, junk, junk, junk, junk, junk, junk, junk, junk, junk, junk, junk, junk, junk, junk, junk, junk, junk, junk]
theorem XP3_88 : ∃ P : Rec → (Option Addr) → (Option Addr) → Nat → Nat → Nat → Nat → Int → Int → Int → Int → AMem → Res, P = fun (L : Rec) (x7 : Option Addr) (x8 : Option Addr) (x8n : Nat) (x8c : Nat) (x9 : Nat) (x9n : Nat) (x10 : Int) (x16 : Int) (x17 : Int) (x18 : Int) (M : AMem) => L.loop b3_88 (k3_88 L) (s3_88 x7 x8 x8n x8c x9 x9n x10 x16 x17 x18 M) M := ⟨_, rfl⟩
noncomputable def P3_88 : Rec → (Option Addr) → (Option Addr) → Nat → Nat → Nat → Nat → Int → Int → Int → Int → AMem → Res := Classical.choose XP3_88
noncomputable def k3_105 (L : Rec) : KT := retK [.tmp 6]
def s3_105 (x7 : Option Addr) (x8 : Option Addr) (x8n : Nat) (x8c : Nat) (x9 : Nat) (x9n : Nat) (x10 : Int) (M : AMem) : List Value := [junk, junk, junk, junk, junk, junk, junk, .pointer x7, .slice x8 x8n x8c, .slice (some ⟨x9, 0, none⟩) x9n 1, .int .i64 x10, junk, junk, junk, junk, junk, junk, junk, junk, junk, junk, junk, junk, junk, junk, junk, junk, junk, junk, junk, junk, junk, junk, junk, junk, junk, junk, junk, junk, junk, junk, junk, junk, junk, junk, junk, junk, junk, junk, junk, junk, junk, junk, junk, junk, junk, junk, junk, junk, junk, junk, junk, junk, junk, junk, junk, junk, junk, junk, junk, junk, junk, junk, junk, junk, junk, junk, junk, junk, junk, junk, junk, junk, junk, junk, junk, junk, junk, junk, junk, junk, junk, junk, junk, junk, junk, junk, junk, junk, junk, junk, junk, junk, junk, junk, junk, junk, junk, junk, junk, junk, junk, junk, junk, junk, junk, junk, junk, junk, junk, junk, junk, junk, junk, junk, junk, junk, junk, junk, junk, junk, junk, junk, junk, junk, junk, junk, junk, junk, junk, junk, junk, junk, junk, junk, junk, junk, junk, junk, junk, junk, junk, junk, junk, junk, junk, junk, junk, junk, junk, junk, junk, junk, junk, junk, junk, junk, junk, junk, junk, junk, junk, junk, junk, junk, junk, junk, junk, junk, junk, junk, junk, junk, junk, junk, junk, junk, junk, junk, junk, junk, junk, junk, junk, junk]
theorem XP3_105 : ∃ P : Rec → (Option Addr) → (Option Addr) → Nat → Nat → Nat → Nat → Int → AMem → Res, P = fun (L : Rec) (x7 : Option Addr) (x8 : Option Addr) (x8n : Nat) (x8c : Nat) (x9 : Nat) (x9n : Nat) (x10 : Int) (M : AMem) => code L c3_105 (k3_105 L) (s3_105 x7 x8 x8n x8c x9 x9n x10 M) M := ⟨_, rfl⟩
noncomputable def P3_105 : Rec → (Option Addr) → (Option Addr) → Nat → Nat → Nat → Nat → Int → AMem → Res := Classical.choose XP3_105
noncomputable def k3_97 (L : Rec) : KT := blockK 7 (seqK (code L (.clear zl5 c3_104) (postK zl5 (loopK L b3_75 (blockK 6 (seqK (code L (.clear zl6 c3_105) (retK [.tmp 6])) (retK [.tmp 6])))))) (postK zl5 (loopK L b3_75 (blockK 6 (seqK (code L (.clear zl6 c3_105) (retK [.tmp 6])) (retK [.tmp 6]))))))
def s3_97 (x7 : Option Addr) (x8 : Option Addr) (x8n : Nat) (x8c : Nat) (x9 : Nat) (x9n : Nat) (x10 : Int) (x16 : Int) (x17 : Int) (x18 : Int) (M : AMem) : List Value := [junk, junk, junk, junk, junk, junk, junk, .pointer x7, .slice x8 x8n x8c, .slice (some ⟨x9, 0, none⟩) x9n 1, .int .i64 x10, junk, junk, junk, junk, junk, .int .i64 x16, .int .i64 x17, .int .i64 x18, junk, junk, junk, junk, junk, junk, junk, junk, junk, junk, junk, junk, junk, junk, junk, junk, junk, junk, junk, junk, junk, junk, junk, junk, junk, junk, junk, junk, junk, junk, junk, junk, junk, junk, junk, junk, junk, junk, junk, junk, junk, junk, junk, junk, junk, junk, junk, junk, junk, junk, junk, junk, junk, junk, junk, junk, junk, junk, junk, junk, junk, junk, junk, junk, junk, junk, junk, junk, junk, junk, junk, junk, junk, junk, junk, junk, junk, junk, junk, junk, junk, junk, junk, junk, junk, junk, junk, junk, junk, junk, junk, junk, junk, junk, junk, junk, junk, junk, junk, junk, junk, junk, junk, junk, junk, junk, junk, junk, junk, junk, junk, junk, junk, junk, junk, junk, junk, junk, junk, junk, junk, junk, junk, junk, junk, junk, junk, junk, junk, junk, junk, junk, junk, junk, junk, junk, junk, junk, junk, junk, junk, junk, junk, junk, junk, junk, junk, junk, junk, junk, junk, junk, junk, junk, junk, junk, junk, junk, junk, junk, junk, junk, junk, junk, junk, junk, junk, junk, junk, junk, junk, junk, junk, junk, junk, junk]
theorem XP3_97 : ∃ P : Rec → (Option Addr) → (Option Addr) → Nat → Nat → Nat → Nat → Int → Int → Int → Int → AMem → Res, P = fun (L : Rec) (x7 : Option Addr) (x8 : Option Addr) (x8n : Nat) (x8c : Nat) (x9 : Nat) (x9n : Nat) (x10 : Int) (x16 : Int) (x17 : Int) (x18 : Int) (M : AMem) => code L c3_97 (k3_97 L) (s3_97 x7 x8 x8n x8c x9 x9n x10 x16 x17 x18 M) M := ⟨_, rfl⟩
noncomputable def P3_97 : Rec → (Option Addr) → (Option Addr) → Nat → Nat → Nat → Nat → Int → Int → Int → Int → AMem → Res := Classical.choose XP3_97
noncomputable def k3_104 (L : Rec) : KT := postK zl5 (loopK L b3_75 (blockK 6 (seqK (code L (.clear zl6 c3_105) (retK [.tmp 6])) (retK [.tmp 6]))))
def s3_104 (x7 : Option Addr) (x8 : Option Addr) (x8n : Nat) (x8c : Nat) (x9 : Nat) (x9n : Nat) (x10 : Int) (x16 : Int) (M : AMem) : List Value := [junk, junk, junk, junk, junk, junk, junk, .pointer x7, .slice x8 x8n x8c, .slice (some ⟨x9, 0, none⟩) x9n 1, .int .i64 x10, junk, junk, junk, junk, junk, .int .i64 x16, junk, junk, junk, junk, junk, junk, junk, junk, junk, junk, junk, junk, junk, junk, junk, junk, junk, junk, junk, junk, junk, junk, junk, junk, junk, junk, junk, junk, junk, junk, junk, junk, junk, junk, junk, junk, junk, junk, junk, junk, junk, junk, junk, junk, junk, junk, junk, junk, junk, junk, junk, junk, junk, junk, junk, junk, junk, junk, junk, junk, junk, junk, junk, junk, junk, junk, junk, junk, junk, junk, junk, junk, junk, junk, junk, junk, junk, junk, junk, junk, junk, junk, junk, junk, junk, junk, junk, junk, junk, junk, junk, junk, junk, junk, junk, junk, junk, junk, junk, junk, junk, junk, junk, junk, junk, junk, junk, junk, junk, junk, junk, junk, junk, junk, junk, junk, junk, junk, junk, junk, junk, junk, junk, junk, junk, junk, junk, junk, junk, junk, junk, junk, junk, junk, junk, junk, junk, junk, junk, junk, junk, junk, junk, junk, junk, junk, junk, junk, junk, junk, junk, junk, junk, junk, junk, junk, junk, junk, junk, junk, junk, junk, junk, junk, junk, junk, junk, junk, junk, junk, junk, junk, junk, junk, junk, junk, junk, junk]
theorem XP3_104 : ∃ P : Rec → (Option Addr) → (Option Addr) → Nat → Nat → Nat → Nat → Int → Int → AMem → Res, P = fun (L : Rec) (x7 : Option Addr) (x8 : Option Addr) (x8n : Nat) (x8c : Nat) (x9 : Nat) (x9n : Nat) (x10 : Int) (x16 : Int) (M : AMem) => code L c3_104 (k3_104 L) (s3_104 x7 x8 x8n x8c x9 x9n x10 x16 M) M := ⟨_, rfl⟩
noncomputable def P3_104 : Rec → (Option Addr) → (Option Addr) → Nat → Nat → Nat → Nat → Int → Int → AMem → Res := Classical.choose XP3_104
theorem QP3_12_eq (L : Rec) (b3_22 c3_56 : ACode) (P3_12 : Rec → (Option Addr) → Nat → Nat → (Option Addr) → Nat → Nat → Nat → (Option Addr) → AMem → Res) (hP3_12 : P3_12 = fun (L : Rec) (x1 : Option Addr) (x1n : Nat) (x1c : Nat) (x2 : Option Addr) (x2n : Nat) (x2c : Nat) (x3 : Nat) (x7 : Option Addr) (M : AMem) => code L (.seq (.ops o3_13) (.seq (.ops o3_15) (.seq (.ops o3_17) (.seq (.seq (.ops o3_20) (.block 0 (.clear zl2 (.loop b3_22)))) (.clear zl7 c3_56))))) (retK [.tmp 6]) (s3_12 x1 x1n x1c x2 x2n x2c x3 x7 M) M) (P3_22 : Rec → (Option Addr) → Nat → Nat → (Option Addr) → Nat → Nat → Nat → (Option Addr) → (Option Addr) → Nat → Nat → Nat → Nat → Int → Int → AMem → Res) (hP3_22 : P3_22 = fun (L : Rec) (x1 : Option Addr) (x1n : Nat) (x1c : Nat) (x2 : Option Addr) (x2n : Nat) (x2c : Nat) (x3 : Nat) (x7 : Option Addr) (x8 : Option Addr) (x8n : Nat) (x8c : Nat) (x9 : Nat) (x9n : Nat) (x10 : Int) (x11 : Int) (M : AMem) => L.loop b3_22 (blockK 0 (seqK (code L (.clear zl7 c3_56) (retK [.tmp 6])) (retK [.tmp 6]))) (s3_22 x1 x1n x1c x2 x2n x2c x3 x7 x8 x8n x8c x9 x9n x10 x11 M) M) (x1 : Option Addr) (x1n : Nat) (x1c : Nat) (x2 : Option Addr) (x2n : Nat) (x2c : Nat) (x3 : Nat) (x7 : Option Addr) (M : AMem) : P3_12 L x1 x1n x1c x2 x2n x2c x3 x7 M =
  (Option.bind (intOf? .i64 (AMem.ld M x3 0)) fun x_1 =>
    (Option.bind (intOf? .i64 (AMem.ld M x3 1)) fun x_2 =>
    (Option.bind (L.call 11 [.agg #[.int .i64 x_1, .int .i64 x_2], .slice x1 x1n x1c] M) fun r_3 =>
    (Option.bind (sliceOf? (some r_3.1)) fun s_4 =>
    (Option.bind (intOf? .i64 (AMem.ld r_3.2 x3 0)) fun x_5 =>
    (Option.bind (intOf? .i64 (AMem.ld r_3.2 x3 1)) fun x_6 =>
    (Option.bind (L.call 10 [.agg #[.int .i64 x_5, .int .i64 x_6]] []) fun r_7 =>
    (Option.bind (intOf? .i64 (some r_7.1)) fun x_8 =>
    (if (0 : Int) ≤ x_8 ∧ x_8 ≤ x_8 ∧ x_8 ≤ 140737488355328 ∧ x_8 * 8 ≤ 140737488355328
    then P3_22 L x1 x1n x1c x2 x2n x2c x3 x7 s_4.1 s_4.2.1 s_4.2.2 (List.length r_3.2) (Int.toNat x_8) 0 0 (r_3.2 ++ [AObj.cells (List.replicate (Int.toNat x_8) (.int .u64 0)) ⟨false, 0⟩])
    else none))))))))) := by
  subst hP3_12; subst hP3_22; kernel_rfl
theorem P3_12_eq (L : Rec) (x1 : Option Addr) (x1n : Nat) (x1c : Nat) (x2 : Option Addr) (x2n : Nat) (x2c : Nat) (x3 : Nat) (x7 : Option Addr) (M : AMem) : P3_12 L x1 x1n x1c x2 x2n x2c x3 x7 M =
  (Option.bind (intOf? .i64 (AMem.ld M x3 0)) fun x_1 =>
    (Option.bind (intOf? .i64 (AMem.ld M x3 1)) fun x_2 =>
    (Option.bind (L.call 11 [.agg #[.int .i64 x_1, .int .i64 x_2], .slice x1 x1n x1c] M) fun r_3 =>
    (Option.bind (sliceOf? (some r_3.1)) fun s_4 =>
    (Option.bind (intOf? .i64 (AMem.ld r_3.2 x3 0)) fun x_5 =>
    (Option.bind (intOf? .i64 (AMem.ld r_3.2 x3 1)) fun x_6 =>
    (Option.bind (L.call 10 [.agg #[.int .i64 x_5, .int .i64 x_6]] []) fun r_7 =>
    (Option.bind (intOf? .i64 (some r_7.1)) fun x_8 =>
    (if (0 : Int) ≤ x_8 ∧ x_8 ≤ x_8 ∧ x_8 ≤ 140737488355328 ∧ x_8 * 8 ≤ 140737488355328
    then P3_22 L x1 x1n x1c x2 x2n x2c x3 x7 s_4.1 s_4.2.1 s_4.2.2 (List.length r_3.2) (Int.toNat x_8) 0 0 (r_3.2 ++ [AObj.cells (List.replicate (Int.toNat x_8) (.int .u64 0)) ⟨false, 0⟩])
    else none))))))))) := QP3_12_eq L b3_22 c3_56 P3_12 (Classical.choose_spec XP3_12) P3_22 (Classical.choose_spec XP3_22) x1 x1n x1c x2 x2n x2c x3 x7 M
theorem QP3_22_eq (L : Rec) (b3_22 c3_33 c3_55 c3_56 : ACode) (hb : ∀ K t A, L.loop b3_22 K t A = code L (.post (.seq (.seq (.ops o3_25) (.cond (.tmp 55) (.skip) (.exit 0))) (.seq (.block 1 (.seq (.draw f3_32 0 o3_32 [(15, 11)]) (.clear zl1 c3_33))) (.clear zl2 c3_55))) zl2) (loopK L b3_22 K) t A) (P3_22 : Rec → (Option Addr) → Nat → Nat → (Option Addr) → Nat → Nat → Nat → (Option Addr) → (Option Addr) → Nat → Nat → Nat → Nat → Int → Int → AMem → Res) (hP3_22 : P3_22 = fun (L : Rec) (x1 : Option Addr) (x1n : Nat) (x1c : Nat) (x2 : Option Addr) (x2n : Nat) (x2c : Nat) (x3 : Nat) (x7 : Option Addr) (x8 : Option Addr) (x8n : Nat) (x8c : Nat) (x9 : Nat) (x9n : Nat) (x10 : Int) (x11 : Int) (M : AMem) => L.loop b3_22 (blockK 0 (seqK (code L (.clear zl7 c3_56) (retK [.tmp 6])) (retK [.tmp 6]))) (s3_22 x1 x1n x1c x2 x2n x2c x3 x7 x8 x8n x8c x9 x9n x10 x11 M) M) (P3_33 : Rec → (Option Addr) → Nat → Nat → (Option Addr) → Nat → Nat → Nat → (Option Addr) → (Option Addr) → Nat → Nat → Nat → Nat → Int → Int → Nat → Bool → AMem → Res) (hP3_33 : P3_33 = fun (L : Rec) (x1 : Option Addr) (x1n : Nat) (x1c : Nat) (x2 : Option Addr) (x2n : Nat) (x2c : Nat) (x3 : Nat) (x7 : Option Addr) (x8 : Option Addr) (x8n : Nat) (x8c : Nat) (x9 : Nat) (x9n : Nat) (x10 : Int) (x11 : Int) (x12 : Nat) (x13 : Bool) (M : AMem) => code L c3_33 (blockK 1 (seqK (code L (.clear zl2 c3_55) (postK zl2 (loopK L b3_22 (blockK 0 (seqK (code L (.clear zl7 c3_56) (retK [.tmp 6])) (retK [.tmp 6])))))) (postK zl2 (loopK L b3_22 (blockK 0 (seqK (code L (.clear zl7 c3_56) (retK [.tmp 6])) (retK [.tmp 6]))))))) (s3_33 x1 x1n x1c x2 x2n x2c x3 x7 x8 x8n x8c x9 x9n x10 x11 x12 x13 M) M) (P3_56 : Rec → (Option Addr) → Nat → Nat → (Option Addr) → (Option Addr) → Nat → Nat → Nat → Nat → Int → AMem → Res) (hP3_56 : P3_56 = fun (L : Rec) (x2 : Option Addr) (x2n : Nat) (x2c : Nat) (x7 : Option Addr) (x8 : Option Addr) (x8n : Nat) (x8c : Nat) (x9 : Nat) (x9n : Nat) (x10 : Int) (M : AMem) => code L c3_56 (retK [.tmp 6]) (s3_56 x2 x2n x2c x7 x8 x8n x8c x9 x9n x10 M) M) (x1 : Option Addr) (x1n : Nat) (x1c : Nat) (x2 : Option Addr) (x2n : Nat) (x2c : Nat) (x3 : Nat) (x7 : Option Addr) (x8 : Option Addr) (x8n : Nat) (x8c : Nat) (x9 : Nat) (x9n : Nat) (x10 : Int) (x11 : Int) (M : AMem) : P3_22 L x1 x1n x1c x2 x2n x2c x3 x7 x8 x8n x8c x9 x9n x10 x11 M =
  (if (decide (x11 < (Int.ofNat x1n))) = true
    then (Option.bind (intOf? .i64 (AMem.ld (M ++ [AObj.cells [.int .i64 0, .slice none 0 0, .int .i64 0, .bool false, .int .u64 0, .int .i64 0] ⟨false, 0⟩]) x3 0)) fun x_1 =>
      (Option.bind (intOf? .i64 (AMem.ld (M ++ [AObj.cells [.int .i64 0, .slice none 0 0, .int .i64 0, .bool false, .int .u64 0, .int .i64 0] ⟨false, 0⟩]) x3 1)) fun x_2 =>
      (match x1 with
      | some a_3 => (if (0 : Int) ≤ x11 ∧ x11 < (Int.ofNat x1n)
        then (Option.bind (intOf? .i64 (AMem.ld (M ++ [AObj.cells [.int .i64 0, .slice none 0 0, .int .i64 0, .bool false, .int .u64 0, .int .i64 0] ⟨false, 0⟩]) a_3.block (a_3.off + ((Int.toNat x11) * 2)))) fun x_4 =>
          (match x1 with
          | some a_5 => (if (0 : Int) ≤ x11 ∧ x11 < (Int.ofNat x1n)
            then (Option.bind (sliceOf? (AMem.ld (M ++ [AObj.cells [.int .i64 0, .slice none 0 0, .int .i64 0, .bool false, .int .u64 0, .int .i64 0] ⟨false, 0⟩]) a_5.block ((a_5.off + ((Int.toNat x11) * 2)) + 1))) fun s_6 =>
              (Option.bind (L.call 12 [.agg #[.int .i64 x_1, .int .i64 x_2], .int .i64 x_4, .slice s_6.1 s_6.2.1 s_6.2.2] (M ++ [AObj.cells [.int .i64 0, .slice none 0 0, .int .i64 0, .bool false, .int .u64 0, .int .i64 0] ⟨false, 0⟩])) fun r_7 =>
              (Option.bind (tupOf? 2 r_7.1) fun cs_8 =>
              (Option.bind (cs_8[0]?) fun u_9 =>
              (Option.bind (aggOf? 6 u_9) fun cs_10 =>
              (Option.bind (intOf? .i64 (cs_10[0]?)) fun x_11 =>
              (Option.bind (sliceOf? (cs_10[1]?)) fun s_12 =>
              (Option.bind (intOf? .i64 (cs_10[2]?)) fun x_13 =>
              (Option.bind (boolOf? (cs_10[3]?)) fun q_14 =>
              (Option.bind (intOf? .u64 (cs_10[4]?)) fun x_15 =>
              (Option.bind (intOf? .i64 (cs_10[5]?)) fun x_16 =>
              (Option.bind (cs_8[1]?) fun u_17 =>
              (Option.bind (boolOf? (some u_17)) fun q_18 =>
              (Option.bind (AMem.wr r_7.2 (List.length M) 0 [.int .i64 x_11, .slice s_12.1 s_12.2.1 s_12.2.2, .int .i64 x_13, .bool q_14, .int .u64 x_15, .int .i64 x_16]) fun M_19 =>
              (if chkOk [(15, 11)] [(15, (List.length M))] [(11, ((M ++ [AObj.cells [.int .i64 0, .slice none 0 0, .int .i64 0, .bool false, .int .u64 0, .int .i64 0] ⟨false, 0⟩]), r_7.2))] = true
              then P3_33 L x1 x1n x1c x2 x2n x2c x3 x7 x8 x8n x8c x9 x9n x10 x11 (List.length M) q_18 M_19
              else none)))))))))))))))
            else none)
          | none => none))
        else none)
      | none => none)))
    else P3_56 L x2 x2n x2c x7 x8 x8n x8c x9 x9n x10 M) := by
  subst hP3_22; subst hP3_33; subst hP3_56; exact (hb (blockK 0 (seqK (code L (.clear zl7 c3_56) (retK [.tmp 6])) (retK [.tmp 6]))) (s3_22 x1 x1n x1c x2 x2n x2c x3 x7 x8 x8n x8c x9 x9n x10 x11 M) M).trans (by kernel_rfl)
theorem P3_22_eq (L : Rec) (hL : ∀ b K t A, L.loop b K t A = code L b (loopK L b K) t A) (x1 : Option Addr) (x1n : Nat) (x1c : Nat) (x2 : Option Addr) (x2n : Nat) (x2c : Nat) (x3 : Nat) (x7 : Option Addr) (x8 : Option Addr) (x8n : Nat) (x8c : Nat) (x9 : Nat) (x9n : Nat) (x10 : Int) (x11 : Int) (M : AMem) : P3_22 L x1 x1n x1c x2 x2n x2c x3 x7 x8 x8n x8c x9 x9n x10 x11 M =
  (if (decide (x11 < (Int.ofNat x1n))) = true
    then (Option.bind (intOf? .i64 (AMem.ld (M ++ [AObj.cells [.int .i64 0, .slice none 0 0, .int .i64 0, .bool false, .int .u64 0, .int .i64 0] ⟨false, 0⟩]) x3 0)) fun x_1 =>
      (Option.bind (intOf? .i64 (AMem.ld (M ++ [AObj.cells [.int .i64 0, .slice none 0 0, .int .i64 0, .bool false, .int .u64 0, .int .i64 0] ⟨false, 0⟩]) x3 1)) fun x_2 =>
      (match x1 with
      | some a_3 => (if (0 : Int) ≤ x11 ∧ x11 < (Int.ofNat x1n)
        then (Option.bind (intOf? .i64 (AMem.ld (M ++ [AObj.cells [.int .i64 0, .slice none 0 0, .int .i64 0, .bool false, .int .u64 0, .int .i64 0] ⟨false, 0⟩]) a_3.block (a_3.off + ((Int.toNat x11) * 2)))) fun x_4 =>
          (match x1 with
          | some a_5 => (if (0 : Int) ≤ x11 ∧ x11 < (Int.ofNat x1n)
            then (Option.bind (sliceOf? (AMem.ld (M ++ [AObj.cells [.int .i64 0, .slice none 0 0, .int .i64 0, .bool false, .int .u64 0, .int .i64 0] ⟨false, 0⟩]) a_5.block ((a_5.off + ((Int.toNat x11) * 2)) + 1))) fun s_6 =>
              (Option.bind (L.call 12 [.agg #[.int .i64 x_1, .int .i64 x_2], .int .i64 x_4, .slice s_6.1 s_6.2.1 s_6.2.2] (M ++ [AObj.cells [.int .i64 0, .slice none 0 0, .int .i64 0, .bool false, .int .u64 0, .int .i64 0] ⟨false, 0⟩])) fun r_7 =>
              (Option.bind (tupOf? 2 r_7.1) fun cs_8 =>
              (Option.bind (cs_8[0]?) fun u_9 =>
              (Option.bind (aggOf? 6 u_9) fun cs_10 =>
              (Option.bind (intOf? .i64 (cs_10[0]?)) fun x_11 =>
              (Option.bind (sliceOf? (cs_10[1]?)) fun s_12 =>
              (Option.bind (intOf? .i64 (cs_10[2]?)) fun x_13 =>
              (Option.bind (boolOf? (cs_10[3]?)) fun q_14 =>
              (Option.bind (intOf? .u64 (cs_10[4]?)) fun x_15 =>
              (Option.bind (intOf? .i64 (cs_10[5]?)) fun x_16 =>
              (Option.bind (cs_8[1]?) fun u_17 =>
              (Option.bind (boolOf? (some u_17)) fun q_18 =>
              (Option.bind (AMem.wr r_7.2 (List.length M) 0 [.int .i64 x_11, .slice s_12.1 s_12.2.1 s_12.2.2, .int .i64 x_13, .bool q_14, .int .u64 x_15, .int .i64 x_16]) fun M_19 =>
              (if chkOk [(15, 11)] [(15, (List.length M))] [(11, ((M ++ [AObj.cells [.int .i64 0, .slice none 0 0, .int .i64 0, .bool false, .int .u64 0, .int .i64 0] ⟨false, 0⟩]), r_7.2))] = true
              then P3_33 L x1 x1n x1c x2 x2n x2c x3 x7 x8 x8n x8c x9 x9n x10 x11 (List.length M) q_18 M_19
              else none)))))))))))))))
            else none)
          | none => none))
        else none)
      | none => none)))
    else P3_56 L x2 x2n x2c x7 x8 x8n x8c x9 x9n x10 M) := QP3_22_eq L b3_22 c3_33 c3_55 c3_56 (hL b3_22) P3_22 (Classical.choose_spec XP3_22) P3_33 (Classical.choose_spec XP3_33) P3_56 (Classical.choose_spec XP3_56) x1 x1n x1c x2 x2n x2c x3 x7 x8 x8n x8c x9 x9n x10 x11 M
theorem QP3_33_eq (L : Rec) (b3_22 b3_44 c3_55 c3_56 : ACode) (P3_33 : Rec → (Option Addr) → Nat → Nat → (Option Addr) → Nat → Nat → Nat → (Option Addr) → (Option Addr) → Nat → Nat → Nat → Nat → Int → Int → Nat → Bool → AMem → Res) (hP3_33 : P3_33 = fun (L : Rec) (x1 : Option Addr) (x1n : Nat) (x1c : Nat) (x2 : Option Addr) (x2n : Nat) (x2c : Nat) (x3 : Nat) (x7 : Option Addr) (x8 : Option Addr) (x8n : Nat) (x8c : Nat) (x9 : Nat) (x9n : Nat) (x10 : Int) (x11 : Int) (x12 : Nat) (x13 : Bool) (M : AMem) => code L (.seq (.seq (.ops o3_35) (.cond (.tmp 74) (.exit 1) (.skip))) (.seq (.ops o3_40) (.seq (.ops o3_42) (.block 2 (.clear zl0 (.loop b3_44)))))) (blockK 1 (seqK (code L (.clear zl2 c3_55) (postK zl2 (loopK L b3_22 (blockK 0 (seqK (code L (.clear zl7 c3_56) (retK [.tmp 6])) (retK [.tmp 6])))))) (postK zl2 (loopK L b3_22 (blockK 0 (seqK (code L (.clear zl7 c3_56) (retK [.tmp 6])) (retK [.tmp 6]))))))) (s3_33 x1 x1n x1c x2 x2n x2c x3 x7 x8 x8n x8c x9 x9n x10 x11 x12 x13 M) M) (P3_55 : Rec → (Option Addr) → Nat → Nat → (Option Addr) → Nat → Nat → Nat → (Option Addr) → (Option Addr) → Nat → Nat → Nat → Nat → Int → Int → AMem → Res) (hP3_55 : P3_55 = fun (L : Rec) (x1 : Option Addr) (x1n : Nat) (x1c : Nat) (x2 : Option Addr) (x2n : Nat) (x2c : Nat) (x3 : Nat) (x7 : Option Addr) (x8 : Option Addr) (x8n : Nat) (x8c : Nat) (x9 : Nat) (x9n : Nat) (x10 : Int) (x11 : Int) (M : AMem) => code L c3_55 (postK zl2 (loopK L b3_22 (blockK 0 (seqK (code L (.clear zl7 c3_56) (retK [.tmp 6])) (retK [.tmp 6]))))) (s3_55 x1 x1n x1c x2 x2n x2c x3 x7 x8 x8n x8c x9 x9n x10 x11 M) M) (P3_44 : Rec → (Option Addr) → Nat → Nat → (Option Addr) → Nat → Nat → Nat → (Option Addr) → (Option Addr) → Nat → Nat → Nat → Nat → Int → Int → Nat → Int → AMem → Res) (hP3_44 : P3_44 = fun (L : Rec) (x1 : Option Addr) (x1n : Nat) (x1c : Nat) (x2 : Option Addr) (x2n : Nat) (x2c : Nat) (x3 : Nat) (x7 : Option Addr) (x8 : Option Addr) (x8n : Nat) (x8c : Nat) (x9 : Nat) (x9n : Nat) (x10 : Int) (x11 : Int) (x12 : Nat) (x14 : Int) (M : AMem) => L.loop b3_44 (blockK 2 (blockK 1 (seqK (code L (.clear zl2 c3_55) (postK zl2 (loopK L b3_22 (blockK 0 (seqK (code L (.clear zl7 c3_56) (retK [.tmp 6])) (retK [.tmp 6])))))) (postK zl2 (loopK L b3_22 (blockK 0 (seqK (code L (.clear zl7 c3_56) (retK [.tmp 6])) (retK [.tmp 6])))))))) (s3_44 x1 x1n x1c x2 x2n x2c x3 x7 x8 x8n x8c x9 x9n x10 x11 x12 x14 M) M) (x1 : Option Addr) (x1n : Nat) (x1c : Nat) (x2 : Option Addr) (x2n : Nat) (x2c : Nat) (x3 : Nat) (x7 : Option Addr) (x8 : Option Addr) (x8n : Nat) (x8c : Nat) (x9 : Nat) (x9n : Nat) (x10 : Int) (x11 : Int) (x12 : Nat) (x13 : Bool) (M : AMem) : P3_33 L x1 x1n x1c x2 x2n x2c x3 x7 x8 x8n x8c x9 x9n x10 x11 x12 x13 M =
  (if (!x13) = true
    then P3_55 L x1 x1n x1c x2 x2n x2c x3 x7 x8 x8n x8c x9 x9n x10 x11 M
    else P3_44 L x1 x1n x1c x2 x2n x2c x3 x7 x8 x8n x8c x9 x9n (IntKind.wrap .i64 (x10 + 1)) x11 x12 0 M) := by
  subst hP3_33; subst hP3_55; subst hP3_44; kernel_rfl
theorem P3_33_eq (L : Rec) (x1 : Option Addr) (x1n : Nat) (x1c : Nat) (x2 : Option Addr) (x2n : Nat) (x2c : Nat) (x3 : Nat) (x7 : Option Addr) (x8 : Option Addr) (x8n : Nat) (x8c : Nat) (x9 : Nat) (x9n : Nat) (x10 : Int) (x11 : Int) (x12 : Nat) (x13 : Bool) (M : AMem) : P3_33 L x1 x1n x1c x2 x2n x2c x3 x7 x8 x8n x8c x9 x9n x10 x11 x12 x13 M =
  (if (!x13) = true
    then P3_55 L x1 x1n x1c x2 x2n x2c x3 x7 x8 x8n x8c x9 x9n x10 x11 M
    else P3_44 L x1 x1n x1c x2 x2n x2c x3 x7 x8 x8n x8c x9 x9n (IntKind.wrap .i64 (x10 + 1)) x11 x12 0 M) := QP3_33_eq L b3_22 b3_44 c3_55 c3_56 P3_33 (Classical.choose_spec XP3_33) P3_55 (Classical.choose_spec XP3_55) P3_44 (Classical.choose_spec XP3_44) x1 x1n x1c x2 x2n x2c x3 x7 x8 x8n x8c x9 x9n x10 x11 x12 x13 M
theorem QP3_56_eq (L : Rec) (b3_60 c3_71 : ACode) (P3_56 : Rec → (Option Addr) → Nat → Nat → (Option Addr) → (Option Addr) → Nat → Nat → Nat → Nat → Int → AMem → Res) (hP3_56 : P3_56 = fun (L : Rec) (x2 : Option Addr) (x2n : Nat) (x2c : Nat) (x7 : Option Addr) (x8 : Option Addr) (x8n : Nat) (x8c : Nat) (x9 : Nat) (x9n : Nat) (x10 : Int) (M : AMem) => code L (.seq (.seq (.ops o3_58) (.block 4 (.clear zl3 (.loop b3_60)))) (.clear zl6 c3_71)) (retK [.tmp 6]) (s3_56 x2 x2n x2c x7 x8 x8n x8c x9 x9n x10 M) M) (P3_60 : Rec → (Option Addr) → Nat → Nat → (Option Addr) → (Option Addr) → Nat → Nat → Nat → Nat → Int → Int → AMem → Res) (hP3_60 : P3_60 = fun (L : Rec) (x2 : Option Addr) (x2n : Nat) (x2c : Nat) (x7 : Option Addr) (x8 : Option Addr) (x8n : Nat) (x8c : Nat) (x9 : Nat) (x9n : Nat) (x10 : Int) (x15 : Int) (M : AMem) => L.loop b3_60 (blockK 4 (seqK (code L (.clear zl6 c3_71) (retK [.tmp 6])) (retK [.tmp 6]))) (s3_60 x2 x2n x2c x7 x8 x8n x8c x9 x9n x10 x15 M) M) (x2 : Option Addr) (x2n : Nat) (x2c : Nat) (x7 : Option Addr) (x8 : Option Addr) (x8n : Nat) (x8c : Nat) (x9 : Nat) (x9n : Nat) (x10 : Int) (M : AMem) : P3_56 L x2 x2n x2c x7 x8 x8n x8c x9 x9n x10 M =
  P3_60 L x2 x2n x2c x7 x8 x8n x8c x9 x9n x10 0 M := by
  subst hP3_56; subst hP3_60; kernel_rfl
theorem P3_56_eq (L : Rec) (x2 : Option Addr) (x2n : Nat) (x2c : Nat) (x7 : Option Addr) (x8 : Option Addr) (x8n : Nat) (x8c : Nat) (x9 : Nat) (x9n : Nat) (x10 : Int) (M : AMem) : P3_56 L x2 x2n x2c x7 x8 x8n x8c x9 x9n x10 M =
  P3_60 L x2 x2n x2c x7 x8 x8n x8c x9 x9n x10 0 M := QP3_56_eq L b3_60 c3_71 P3_56 (Classical.choose_spec XP3_56) P3_60 (Classical.choose_spec XP3_60) x2 x2n x2c x7 x8 x8n x8c x9 x9n x10 M
theorem QP3_55_eq (L : Rec) (b3_22 c3_56 : ACode) (P3_22 : Rec → (Option Addr) → Nat → Nat → (Option Addr) → Nat → Nat → Nat → (Option Addr) → (Option Addr) → Nat → Nat → Nat → Nat → Int → Int → AMem → Res) (hP3_22 : P3_22 = fun (L : Rec) (x1 : Option Addr) (x1n : Nat) (x1c : Nat) (x2 : Option Addr) (x2n : Nat) (x2c : Nat) (x3 : Nat) (x7 : Option Addr) (x8 : Option Addr) (x8n : Nat) (x8c : Nat) (x9 : Nat) (x9n : Nat) (x10 : Int) (x11 : Int) (M : AMem) => L.loop b3_22 (blockK 0 (seqK (code L (.clear zl7 c3_56) (retK [.tmp 6])) (retK [.tmp 6]))) (s3_22 x1 x1n x1c x2 x2n x2c x3 x7 x8 x8n x8c x9 x9n x10 x11 M) M) (P3_55 : Rec → (Option Addr) → Nat → Nat → (Option Addr) → Nat → Nat → Nat → (Option Addr) → (Option Addr) → Nat → Nat → Nat → Nat → Int → Int → AMem → Res) (hP3_55 : P3_55 = fun (L : Rec) (x1 : Option Addr) (x1n : Nat) (x1c : Nat) (x2 : Option Addr) (x2n : Nat) (x2c : Nat) (x3 : Nat) (x7 : Option Addr) (x8 : Option Addr) (x8n : Nat) (x8c : Nat) (x9 : Nat) (x9n : Nat) (x10 : Int) (x11 : Int) (M : AMem) => code L (.ops o3_55) (postK zl2 (loopK L b3_22 (blockK 0 (seqK (code L (.clear zl7 c3_56) (retK [.tmp 6])) (retK [.tmp 6]))))) (s3_55 x1 x1n x1c x2 x2n x2c x3 x7 x8 x8n x8c x9 x9n x10 x11 M) M) (x1 : Option Addr) (x1n : Nat) (x1c : Nat) (x2 : Option Addr) (x2n : Nat) (x2c : Nat) (x3 : Nat) (x7 : Option Addr) (x8 : Option Addr) (x8n : Nat) (x8c : Nat) (x9 : Nat) (x9n : Nat) (x10 : Int) (x11 : Int) (M : AMem) : P3_55 L x1 x1n x1c x2 x2n x2c x3 x7 x8 x8n x8c x9 x9n x10 x11 M =
  P3_22 L x1 x1n x1c x2 x2n x2c x3 x7 x8 x8n x8c x9 x9n x10 (IntKind.wrap .i64 (x11 + 1)) M := by
  subst hP3_22; subst hP3_55; kernel_rfl
theorem P3_55_eq (L : Rec) (x1 : Option Addr) (x1n : Nat) (x1c : Nat) (x2 : Option Addr) (x2n : Nat) (x2c : Nat) (x3 : Nat) (x7 : Option Addr) (x8 : Option Addr) (x8n : Nat) (x8c : Nat) (x9 : Nat) (x9n : Nat) (x10 : Int) (x11 : Int) (M : AMem) : P3_55 L x1 x1n x1c x2 x2n x2c x3 x7 x8 x8n x8c x9 x9n x10 x11 M =
  P3_22 L x1 x1n x1c x2 x2n x2c x3 x7 x8 x8n x8c x9 x9n x10 (IntKind.wrap .i64 (x11 + 1)) M := QP3_55_eq L b3_22 c3_56 P3_22 (Classical.choose_spec XP3_22) P3_55 (Classical.choose_spec XP3_55) x1 x1n x1c x2 x2n x2c x3 x7 x8 x8n x8c x9 x9n x10 x11 M
theorem QP3_44_eq (L : Rec) (b3_22 b3_44 c3_54 c3_55 c3_56 : ACode) (hb : ∀ K t A, L.loop b3_44 K t A = code L (.post (.seq (.seq (.ops o3_47) (.cond (.tmp 81) (.skip) (.exit 2))) (.seq (.block 3 (.draw [] 0 o3_53 [])) (.clear zl0 c3_54))) zl0) (loopK L b3_44 K) t A) (P3_55 : Rec → (Option Addr) → Nat → Nat → (Option Addr) → Nat → Nat → Nat → (Option Addr) → (Option Addr) → Nat → Nat → Nat → Nat → Int → Int → AMem → Res) (hP3_55 : P3_55 = fun (L : Rec) (x1 : Option Addr) (x1n : Nat) (x1c : Nat) (x2 : Option Addr) (x2n : Nat) (x2c : Nat) (x3 : Nat) (x7 : Option Addr) (x8 : Option Addr) (x8n : Nat) (x8c : Nat) (x9 : Nat) (x9n : Nat) (x10 : Int) (x11 : Int) (M : AMem) => code L c3_55 (postK zl2 (loopK L b3_22 (blockK 0 (seqK (code L (.clear zl7 c3_56) (retK [.tmp 6])) (retK [.tmp 6]))))) (s3_55 x1 x1n x1c x2 x2n x2c x3 x7 x8 x8n x8c x9 x9n x10 x11 M) M) (P3_44 : Rec → (Option Addr) → Nat → Nat → (Option Addr) → Nat → Nat → Nat → (Option Addr) → (Option Addr) → Nat → Nat → Nat → Nat → Int → Int → Nat → Int → AMem → Res) (hP3_44 : P3_44 = fun (L : Rec) (x1 : Option Addr) (x1n : Nat) (x1c : Nat) (x2 : Option Addr) (x2n : Nat) (x2c : Nat) (x3 : Nat) (x7 : Option Addr) (x8 : Option Addr) (x8n : Nat) (x8c : Nat) (x9 : Nat) (x9n : Nat) (x10 : Int) (x11 : Int) (x12 : Nat) (x14 : Int) (M : AMem) => L.loop b3_44 (blockK 2 (blockK 1 (seqK (code L (.clear zl2 c3_55) (postK zl2 (loopK L b3_22 (blockK 0 (seqK (code L (.clear zl7 c3_56) (retK [.tmp 6])) (retK [.tmp 6])))))) (postK zl2 (loopK L b3_22 (blockK 0 (seqK (code L (.clear zl7 c3_56) (retK [.tmp 6])) (retK [.tmp 6])))))))) (s3_44 x1 x1n x1c x2 x2n x2c x3 x7 x8 x8n x8c x9 x9n x10 x11 x12 x14 M) M) (P3_54 : Rec → (Option Addr) → Nat → Nat → (Option Addr) → Nat → Nat → Nat → (Option Addr) → (Option Addr) → Nat → Nat → Nat → Nat → Int → Int → Nat → Int → AMem → Res) (hP3_54 : P3_54 = fun (L : Rec) (x1 : Option Addr) (x1n : Nat) (x1c : Nat) (x2 : Option Addr) (x2n : Nat) (x2c : Nat) (x3 : Nat) (x7 : Option Addr) (x8 : Option Addr) (x8n : Nat) (x8c : Nat) (x9 : Nat) (x9n : Nat) (x10 : Int) (x11 : Int) (x12 : Nat) (x14 : Int) (M : AMem) => code L c3_54 (postK zl0 (loopK L b3_44 (blockK 2 (blockK 1 (seqK (code L (.clear zl2 c3_55) (postK zl2 (loopK L b3_22 (blockK 0 (seqK (code L (.clear zl7 c3_56) (retK [.tmp 6])) (retK [.tmp 6])))))) (postK zl2 (loopK L b3_22 (blockK 0 (seqK (code L (.clear zl7 c3_56) (retK [.tmp 6])) (retK [.tmp 6])))))))))) (s3_54 x1 x1n x1c x2 x2n x2c x3 x7 x8 x8n x8c x9 x9n x10 x11 x12 x14 M) M) (x1 : Option Addr) (x1n : Nat) (x1c : Nat) (x2 : Option Addr) (x2n : Nat) (x2c : Nat) (x3 : Nat) (x7 : Option Addr) (x8 : Option Addr) (x8n : Nat) (x8c : Nat) (x9 : Nat) (x9n : Nat) (x10 : Int) (x11 : Int) (x12 : Nat) (x14 : Int) (M : AMem) : P3_44 L x1 x1n x1c x2 x2n x2c x3 x7 x8 x8n x8c x9 x9n x10 x11 x12 x14 M =
  (Option.bind (sliceOf? (AMem.ld M x12 1)) fun s_1 =>
    (if (decide (x14 < (Int.ofNat s_1.2.1))) = true
    then (Option.bind (sliceOf? (AMem.ld M x12 1)) fun s_2 =>
      (match s_2.1 with
      | some a_3 => (if (0 : Int) ≤ x14 ∧ x14 < (Int.ofNat s_2.2.1)
        then (Option.bind (intOf? .i64 (AMem.ld M a_3.block (a_3.off + ((Int.toNat x14) * 2)))) fun x_4 =>
          (Option.bind (sliceOf? (AMem.ld M x12 1)) fun s_5 =>
          (match s_5.1 with
          | some a_6 => (if (0 : Int) ≤ x14 ∧ x14 < (Int.ofNat s_5.2.1)
            then (Option.bind (intOf? .i64 (AMem.ld M a_6.block (a_6.off + ((Int.toNat x14) * 2)))) fun x_7 =>
              (if (0 : Int) ≤ x_7 ∧ x_7 < (Int.ofNat x9n)
              then (Option.bind (intOf? .u64 (AMem.ld M x9 (0 + ((Int.toNat x_7) * 1)))) fun x_8 =>
                (Option.bind (sliceOf? (AMem.ld M x12 1)) fun s_9 =>
                (match s_9.1 with
                | some a_10 => (if (0 : Int) ≤ x14 ∧ x14 < (Int.ofNat s_9.2.1)
                  then (Option.bind (intOf? .u64 (AMem.ld M a_10.block ((a_10.off + ((Int.toNat x14) * 2)) + 1))) fun x_11 =>
                    (if (0 : Int) ≤ x_4 ∧ x_4 < (Int.ofNat x9n)
                    then (Option.bind (AMem.wr M x9 (0 + ((Int.toNat x_4) * 1)) [.int .u64 (IntKind.wrap .u64 (x_8 + x_11))]) fun M_12 =>
                      P3_54 L x1 x1n x1c x2 x2n x2c x3 x7 x8 x8n x8c x9 x9n x10 x11 x12 x14 M_12)
                    else none))
                  else none)
                | none => none)))
              else none))
            else none)
          | none => none)))
        else none)
      | none => none))
    else P3_55 L x1 x1n x1c x2 x2n x2c x3 x7 x8 x8n x8c x9 x9n x10 x11 M)) := by
  subst hP3_55; subst hP3_44; subst hP3_54; exact (hb (blockK 2 (blockK 1 (seqK (code L (.clear zl2 c3_55) (postK zl2 (loopK L b3_22 (blockK 0 (seqK (code L (.clear zl7 c3_56) (retK [.tmp 6])) (retK [.tmp 6])))))) (postK zl2 (loopK L b3_22 (blockK 0 (seqK (code L (.clear zl7 c3_56) (retK [.tmp 6])) (retK [.tmp 6])))))))) (s3_44 x1 x1n x1c x2 x2n x2c x3 x7 x8 x8n x8c x9 x9n x10 x11 x12 x14 M) M).trans (by kernel_rfl)
theorem P3_44_eq (L : Rec) (hL : ∀ b K t A, L.loop b K t A = code L b (loopK L b K) t A) (x1 : Option Addr) (x1n : Nat) (x1c : Nat) (x2 : Option Addr) (x2n : Nat) (x2c : Nat) (x3 : Nat) (x7 : Option Addr) (x8 : Option Addr) (x8n : Nat) (x8c : Nat) (x9 : Nat) (x9n : Nat) (x10 : Int) (x11 : Int) (x12 : Nat) (x14 : Int) (M : AMem) : P3_44 L x1 x1n x1c x2 x2n x2c x3 x7 x8 x8n x8c x9 x9n x10 x11 x12 x14 M =
  (Option.bind (sliceOf? (AMem.ld M x12 1)) fun s_1 =>
    (if (decide (x14 < (Int.ofNat s_1.2.1))) = true
    then (Option.bind (sliceOf? (AMem.ld M x12 1)) fun s_2 =>
      (match s_2.1 with
      | some a_3 => (if (0 : Int) ≤ x14 ∧ x14 < (Int.ofNat s_2.2.1)
        then (Option.bind (intOf? .i64 (AMem.ld M a_3.block (a_3.off + ((Int.toNat x14) * 2)))) fun x_4 =>
          (Option.bind (sliceOf? (AMem.ld M x12 1)) fun s_5 =>
          (match s_5.1 with
          | some a_6 => (if (0 : Int) ≤ x14 ∧ x14 < (Int.ofNat s_5.2.1)
            then (Option.bind (intOf? .i64 (AMem.ld M a_6.block (a_6.off + ((Int.toNat x14) * 2)))) fun x_7 =>
              (if (0 : Int) ≤ x_7 ∧ x_7 < (Int.ofNat x9n)
              then (Option.bind (intOf? .u64 (AMem.ld M x9 (0 + ((Int.toNat x_7) * 1)))) fun x_8 =>
                (Option.bind (sliceOf? (AMem.ld M x12 1)) fun s_9 =>
                (match s_9.1 with
                | some a_10 => (if (0 : Int) ≤ x14 ∧ x14 < (Int.ofNat s_9.2.1)
                  then (Option.bind (intOf? .u64 (AMem.ld M a_10.block ((a_10.off + ((Int.toNat x14) * 2)) + 1))) fun x_11 =>
                    (if (0 : Int) ≤ x_4 ∧ x_4 < (Int.ofNat x9n)
                    then (Option.bind (AMem.wr M x9 (0 + ((Int.toNat x_4) * 1)) [.int .u64 (IntKind.wrap .u64 (x_8 + x_11))]) fun M_12 =>
                      P3_54 L x1 x1n x1c x2 x2n x2c x3 x7 x8 x8n x8c x9 x9n x10 x11 x12 x14 M_12)
                    else none))
                  else none)
                | none => none)))
              else none))
            else none)
          | none => none)))
        else none)
      | none => none))
    else P3_55 L x1 x1n x1c x2 x2n x2c x3 x7 x8 x8n x8c x9 x9n x10 x11 M)) := QP3_44_eq L b3_22 b3_44 c3_54 c3_55 c3_56 (hL b3_44) P3_55 (Classical.choose_spec XP3_55) P3_44 (Classical.choose_spec XP3_44) P3_54 (Classical.choose_spec XP3_54) x1 x1n x1c x2 x2n x2c x3 x7 x8 x8n x8c x9 x9n x10 x11 x12 x14 M
theorem QP3_60_eq (L : Rec) (b3_60 c3_70 c3_71 : ACode) (hb : ∀ K t A, L.loop b3_60 K t A = code L (.post (.seq (.seq (.ops o3_63) (.cond (.tmp 116) (.skip) (.exit 4))) (.seq (.block 5 (.ops o3_69)) (.clear zl3 c3_70))) zl3) (loopK L b3_60 K) t A) (P3_60 : Rec → (Option Addr) → Nat → Nat → (Option Addr) → (Option Addr) → Nat → Nat → Nat → Nat → Int → Int → AMem → Res) (hP3_60 : P3_60 = fun (L : Rec) (x2 : Option Addr) (x2n : Nat) (x2c : Nat) (x7 : Option Addr) (x8 : Option Addr) (x8n : Nat) (x8c : Nat) (x9 : Nat) (x9n : Nat) (x10 : Int) (x15 : Int) (M : AMem) => L.loop b3_60 (blockK 4 (seqK (code L (.clear zl6 c3_71) (retK [.tmp 6])) (retK [.tmp 6]))) (s3_60 x2 x2n x2c x7 x8 x8n x8c x9 x9n x10 x15 M) M) (P3_70 : Rec → (Option Addr) → Nat → Nat → (Option Addr) → (Option Addr) → Nat → Nat → Nat → Nat → Int → Int → AMem → Res) (hP3_70 : P3_70 = fun (L : Rec) (x2 : Option Addr) (x2n : Nat) (x2c : Nat) (x7 : Option Addr) (x8 : Option Addr) (x8n : Nat) (x8c : Nat) (x9 : Nat) (x9n : Nat) (x10 : Int) (x15 : Int) (M : AMem) => code L c3_70 (postK zl3 (loopK L b3_60 (blockK 4 (seqK (code L (.clear zl6 c3_71) (retK [.tmp 6])) (retK [.tmp 6]))))) (s3_70 x2 x2n x2c x7 x8 x8n x8c x9 x9n x10 x15 M) M) (P3_71 : Rec → (Option Addr) → (Option Addr) → Nat → Nat → Nat → Nat → Int → AMem → Res) (hP3_71 : P3_71 = fun (L : Rec) (x7 : Option Addr) (x8 : Option Addr) (x8n : Nat) (x8c : Nat) (x9 : Nat) (x9n : Nat) (x10 : Int) (M : AMem) => code L c3_71 (retK [.tmp 6]) (s3_71 x7 x8 x8n x8c x9 x9n x10 M) M) (x2 : Option Addr) (x2n : Nat) (x2c : Nat) (x7 : Option Addr) (x8 : Option Addr) (x8n : Nat) (x8c : Nat) (x9 : Nat) (x9n : Nat) (x10 : Int) (x15 : Int) (M : AMem) : P3_60 L x2 x2n x2c x7 x8 x8n x8c x9 x9n x10 x15 M =
  (if (decide (x15 < (Int.ofNat x2n))) = true
    then (if (decide ((Int.ofNat x8n) > 0)) = true
      then (match x2 with
        | some a_1 => (if (0 : Int) ≤ x15 ∧ x15 < (Int.ofNat x2n)
          then (Option.bind (intOf? .u8 (AMem.ld M a_1.block (a_1.off + ((Int.toNat x15) * 1)))) fun x_2 =>
            (if (Int.ofNat x8n) = 0
            then none
            else (match x8 with
              | some a_3 => (if (0 : Int) ≤ (Int.tmod (IntKind.wrap .i64 x_2) (Int.ofNat x8n)) ∧ (Int.tmod (IntKind.wrap .i64 x_2) (Int.ofNat x8n)) < (Int.ofNat x8n)
                then (Option.bind (ptrOf? (AMem.ld M a_3.block (a_3.off + ((Int.toNat (Int.tmod (IntKind.wrap .i64 x_2) (Int.ofNat x8n))) * 1)))) fun p_4 =>
                  (Option.bind (L.call 13 [.pointer p_4, .pointer x7] M) fun r_5 =>
                  (Option.bind (boolOf? (some r_5.1)) fun q_6 =>
                  P3_70 L x2 x2n x2c x7 x8 x8n x8c x9 x9n x10 x15 r_5.2)))
                else none)
              | none => none)))
          else none)
        | none => none)
      else P3_71 L x7 x8 x8n x8c x9 x9n x10 M)
    else P3_71 L x7 x8 x8n x8c x9 x9n x10 M) := by
  subst hP3_60; subst hP3_70; subst hP3_71; exact (hb (blockK 4 (seqK (code L (.clear zl6 c3_71) (retK [.tmp 6])) (retK [.tmp 6]))) (s3_60 x2 x2n x2c x7 x8 x8n x8c x9 x9n x10 x15 M) M).trans (by kernel_rfl)
theorem P3_60_eq (L : Rec) (hL : ∀ b K t A, L.loop b K t A = code L b (loopK L b K) t A) (x2 : Option Addr) (x2n : Nat) (x2c : Nat) (x7 : Option Addr) (x8 : Option Addr) (x8n : Nat) (x8c : Nat) (x9 : Nat) (x9n : Nat) (x10 : Int) (x15 : Int) (M : AMem) : P3_60 L x2 x2n x2c x7 x8 x8n x8c x9 x9n x10 x15 M =
  (if (decide (x15 < (Int.ofNat x2n))) = true
    then (if (decide ((Int.ofNat x8n) > 0)) = true
      then (match x2 with
        | some a_1 => (if (0 : Int) ≤ x15 ∧ x15 < (Int.ofNat x2n)
          then (Option.bind (intOf? .u8 (AMem.ld M a_1.block (a_1.off + ((Int.toNat x15) * 1)))) fun x_2 =>
            (if (Int.ofNat x8n) = 0
            then none
            else (match x8 with
              | some a_3 => (if (0 : Int) ≤ (Int.tmod (IntKind.wrap .i64 x_2) (Int.ofNat x8n)) ∧ (Int.tmod (IntKind.wrap .i64 x_2) (Int.ofNat x8n)) < (Int.ofNat x8n)
                then (Option.bind (ptrOf? (AMem.ld M a_3.block (a_3.off + ((Int.toNat (Int.tmod (IntKind.wrap .i64 x_2) (Int.ofNat x8n))) * 1)))) fun p_4 =>
                  (Option.bind (L.call 13 [.pointer p_4, .pointer x7] M) fun r_5 =>
                  (Option.bind (boolOf? (some r_5.1)) fun q_6 =>
                  P3_70 L x2 x2n x2c x7 x8 x8n x8c x9 x9n x10 x15 r_5.2)))
                else none)
              | none => none)))
          else none)
        | none => none)
      else P3_71 L x7 x8 x8n x8c x9 x9n x10 M)
    else P3_71 L x7 x8 x8n x8c x9 x9n x10 M) := QP3_60_eq L b3_60 c3_70 c3_71 (hL b3_60) P3_60 (Classical.choose_spec XP3_60) P3_70 (Classical.choose_spec XP3_70) P3_71 (Classical.choose_spec XP3_71) x2 x2n x2c x7 x8 x8n x8c x9 x9n x10 x15 M
theorem QP3_54_eq (L : Rec) (b3_22 b3_44 c3_55 c3_56 : ACode) (P3_44 : Rec → (Option Addr) → Nat → Nat → (Option Addr) → Nat → Nat → Nat → (Option Addr) → (Option Addr) → Nat → Nat → Nat → Nat → Int → Int → Nat → Int → AMem → Res) (hP3_44 : P3_44 = fun (L : Rec) (x1 : Option Addr) (x1n : Nat) (x1c : Nat) (x2 : Option Addr) (x2n : Nat) (x2c : Nat) (x3 : Nat) (x7 : Option Addr) (x8 : Option Addr) (x8n : Nat) (x8c : Nat) (x9 : Nat) (x9n : Nat) (x10 : Int) (x11 : Int) (x12 : Nat) (x14 : Int) (M : AMem) => L.loop b3_44 (blockK 2 (blockK 1 (seqK (code L (.clear zl2 c3_55) (postK zl2 (loopK L b3_22 (blockK 0 (seqK (code L (.clear zl7 c3_56) (retK [.tmp 6])) (retK [.tmp 6])))))) (postK zl2 (loopK L b3_22 (blockK 0 (seqK (code L (.clear zl7 c3_56) (retK [.tmp 6])) (retK [.tmp 6])))))))) (s3_44 x1 x1n x1c x2 x2n x2c x3 x7 x8 x8n x8c x9 x9n x10 x11 x12 x14 M) M) (P3_54 : Rec → (Option Addr) → Nat → Nat → (Option Addr) → Nat → Nat → Nat → (Option Addr) → (Option Addr) → Nat → Nat → Nat → Nat → Int → Int → Nat → Int → AMem → Res) (hP3_54 : P3_54 = fun (L : Rec) (x1 : Option Addr) (x1n : Nat) (x1c : Nat) (x2 : Option Addr) (x2n : Nat) (x2c : Nat) (x3 : Nat) (x7 : Option Addr) (x8 : Option Addr) (x8n : Nat) (x8c : Nat) (x9 : Nat) (x9n : Nat) (x10 : Int) (x11 : Int) (x12 : Nat) (x14 : Int) (M : AMem) => code L (.ops o3_54) (postK zl0 (loopK L b3_44 (blockK 2 (blockK 1 (seqK (code L (.clear zl2 c3_55) (postK zl2 (loopK L b3_22 (blockK 0 (seqK (code L (.clear zl7 c3_56) (retK [.tmp 6])) (retK [.tmp 6])))))) (postK zl2 (loopK L b3_22 (blockK 0 (seqK (code L (.clear zl7 c3_56) (retK [.tmp 6])) (retK [.tmp 6])))))))))) (s3_54 x1 x1n x1c x2 x2n x2c x3 x7 x8 x8n x8c x9 x9n x10 x11 x12 x14 M) M) (x1 : Option Addr) (x1n : Nat) (x1c : Nat) (x2 : Option Addr) (x2n : Nat) (x2c : Nat) (x3 : Nat) (x7 : Option Addr) (x8 : Option Addr) (x8n : Nat) (x8c : Nat) (x9 : Nat) (x9n : Nat) (x10 : Int) (x11 : Int) (x12 : Nat) (x14 : Int) (M : AMem) : P3_54 L x1 x1n x1c x2 x2n x2c x3 x7 x8 x8n x8c x9 x9n x10 x11 x12 x14 M =
  P3_44 L x1 x1n x1c x2 x2n x2c x3 x7 x8 x8n x8c x9 x9n x10 x11 x12 (IntKind.wrap .i64 (x14 + 1)) M := by
  subst hP3_44; subst hP3_54; kernel_rfl
theorem P3_54_eq (L : Rec) (x1 : Option Addr) (x1n : Nat) (x1c : Nat) (x2 : Option Addr) (x2n : Nat) (x2c : Nat) (x3 : Nat) (x7 : Option Addr) (x8 : Option Addr) (x8n : Nat) (x8c : Nat) (x9 : Nat) (x9n : Nat) (x10 : Int) (x11 : Int) (x12 : Nat) (x14 : Int) (M : AMem) : P3_54 L x1 x1n x1c x2 x2n x2c x3 x7 x8 x8n x8c x9 x9n x10 x11 x12 x14 M =
  P3_44 L x1 x1n x1c x2 x2n x2c x3 x7 x8 x8n x8c x9 x9n x10 x11 x12 (IntKind.wrap .i64 (x14 + 1)) M := QP3_54_eq L b3_22 b3_44 c3_55 c3_56 P3_44 (Classical.choose_spec XP3_44) P3_54 (Classical.choose_spec XP3_54) x1 x1n x1c x2 x2n x2c x3 x7 x8 x8n x8c x9 x9n x10 x11 x12 x14 M
theorem QP3_70_eq (L : Rec) (b3_60 c3_71 : ACode) (P3_60 : Rec → (Option Addr) → Nat → Nat → (Option Addr) → (Option Addr) → Nat → Nat → Nat → Nat → Int → Int → AMem → Res) (hP3_60 : P3_60 = fun (L : Rec) (x2 : Option Addr) (x2n : Nat) (x2c : Nat) (x7 : Option Addr) (x8 : Option Addr) (x8n : Nat) (x8c : Nat) (x9 : Nat) (x9n : Nat) (x10 : Int) (x15 : Int) (M : AMem) => L.loop b3_60 (blockK 4 (seqK (code L (.clear zl6 c3_71) (retK [.tmp 6])) (retK [.tmp 6]))) (s3_60 x2 x2n x2c x7 x8 x8n x8c x9 x9n x10 x15 M) M) (P3_70 : Rec → (Option Addr) → Nat → Nat → (Option Addr) → (Option Addr) → Nat → Nat → Nat → Nat → Int → Int → AMem → Res) (hP3_70 : P3_70 = fun (L : Rec) (x2 : Option Addr) (x2n : Nat) (x2c : Nat) (x7 : Option Addr) (x8 : Option Addr) (x8n : Nat) (x8c : Nat) (x9 : Nat) (x9n : Nat) (x10 : Int) (x15 : Int) (M : AMem) => code L (.ops o3_70) (postK zl3 (loopK L b3_60 (blockK 4 (seqK (code L (.clear zl6 c3_71) (retK [.tmp 6])) (retK [.tmp 6]))))) (s3_70 x2 x2n x2c x7 x8 x8n x8c x9 x9n x10 x15 M) M) (x2 : Option Addr) (x2n : Nat) (x2c : Nat) (x7 : Option Addr) (x8 : Option Addr) (x8n : Nat) (x8c : Nat) (x9 : Nat) (x9n : Nat) (x10 : Int) (x15 : Int) (M : AMem) : P3_70 L x2 x2n x2c x7 x8 x8n x8c x9 x9n x10 x15 M =
  P3_60 L x2 x2n x2c x7 x8 x8n x8c x9 x9n x10 (IntKind.wrap .i64 (x15 + 1)) M := by
  subst hP3_60; subst hP3_70; kernel_rfl
theorem P3_70_eq (L : Rec) (x2 : Option Addr) (x2n : Nat) (x2c : Nat) (x7 : Option Addr) (x8 : Option Addr) (x8n : Nat) (x8c : Nat) (x9 : Nat) (x9n : Nat) (x10 : Int) (x15 : Int) (M : AMem) : P3_70 L x2 x2n x2c x7 x8 x8n x8c x9 x9n x10 x15 M =
  P3_60 L x2 x2n x2c x7 x8 x8n x8c x9 x9n x10 (IntKind.wrap .i64 (x15 + 1)) M := QP3_70_eq L b3_60 c3_71 P3_60 (Classical.choose_spec XP3_60) P3_70 (Classical.choose_spec XP3_70) x2 x2n x2c x7 x8 x8n x8c x9 x9n x10 x15 M
theorem QP3_71_eq (L : Rec) (b3_75 c3_105 : ACode) (P3_71 : Rec → (Option Addr) → (Option Addr) → Nat → Nat → Nat → Nat → Int → AMem → Res) (hP3_71 : P3_71 = fun (L : Rec) (x7 : Option Addr) (x8 : Option Addr) (x8n : Nat) (x8c : Nat) (x9 : Nat) (x9n : Nat) (x10 : Int) (M : AMem) => code L (.seq (.seq (.ops o3_73) (.block 6 (.clear zl5 (.loop b3_75)))) (.clear zl6 c3_105)) (retK [.tmp 6]) (s3_71 x7 x8 x8n x8c x9 x9n x10 M) M) (P3_75 : Rec → (Option Addr) → (Option Addr) → Nat → Nat → Nat → Nat → Int → Int → AMem → Res) (hP3_75 : P3_75 = fun (L : Rec) (x7 : Option Addr) (x8 : Option Addr) (x8n : Nat) (x8c : Nat) (x9 : Nat) (x9n : Nat) (x10 : Int) (x16 : Int) (M : AMem) => L.loop b3_75 (blockK 6 (seqK (code L (.clear zl6 c3_105) (retK [.tmp 6])) (retK [.tmp 6]))) (s3_75 x7 x8 x8n x8c x9 x9n x10 x16 M) M) (x7 : Option Addr) (x8 : Option Addr) (x8n : Nat) (x8c : Nat) (x9 : Nat) (x9n : Nat) (x10 : Int) (M : AMem) : P3_71 L x7 x8 x8n x8c x9 x9n x10 M =
  P3_75 L x7 x8 x8n x8c x9 x9n x10 0 M := by
  subst hP3_71; subst hP3_75; kernel_rfl
theorem P3_71_eq (L : Rec) (x7 : Option Addr) (x8 : Option Addr) (x8n : Nat) (x8c : Nat) (x9 : Nat) (x9n : Nat) (x10 : Int) (M : AMem) : P3_71 L x7 x8 x8n x8c x9 x9n x10 M =
  P3_75 L x7 x8 x8n x8c x9 x9n x10 0 M := QP3_71_eq L b3_75 c3_105 P3_71 (Classical.choose_spec XP3_71) P3_75 (Classical.choose_spec XP3_75) x7 x8 x8n x8c x9 x9n x10 M
theorem QP3_75_eq (L : Rec) (b3_75 b3_88 c3_104 c3_105 c3_97 : ACode) (hb : ∀ K t A, L.loop b3_75 K t A = code L (.post (.seq (.seq (.ops o3_78) (.cond (.tmp 135) (.skip) (.exit 6))) (.seq (.block 7 (.seq (.ops o3_85) (.seq (.block 8 (.clear zl4 (.loop b3_88))) (.clear zl4 c3_97)))) (.clear zl5 c3_104))) zl5) (loopK L b3_75 K) t A) (P3_75 : Rec → (Option Addr) → (Option Addr) → Nat → Nat → Nat → Nat → Int → Int → AMem → Res) (hP3_75 : P3_75 = fun (L : Rec) (x7 : Option Addr) (x8 : Option Addr) (x8n : Nat) (x8c : Nat) (x9 : Nat) (x9n : Nat) (x10 : Int) (x16 : Int) (M : AMem) => L.loop b3_75 (blockK 6 (seqK (code L (.clear zl6 c3_105) (retK [.tmp 6])) (retK [.tmp 6]))) (s3_75 x7 x8 x8n x8c x9 x9n x10 x16 M) M) (P3_88 : Rec → (Option Addr) → (Option Addr) → Nat → Nat → Nat → Nat → Int → Int → Int → Int → AMem → Res) (hP3_88 : P3_88 = fun (L : Rec) (x7 : Option Addr) (x8 : Option Addr) (x8n : Nat) (x8c : Nat) (x9 : Nat) (x9n : Nat) (x10 : Int) (x16 : Int) (x17 : Int) (x18 : Int) (M : AMem) => L.loop b3_88 (blockK 8 (seqK (code L (.clear zl4 c3_97) (blockK 7 (seqK (code L (.clear zl5 c3_104) (postK zl5 (loopK L b3_75 (blockK 6 (seqK (code L (.clear zl6 c3_105) (retK [.tmp 6])) (retK [.tmp 6])))))) (postK zl5 (loopK L b3_75 (blockK 6 (seqK (code L (.clear zl6 c3_105) (retK [.tmp 6])) (retK [.tmp 6])))))))) (blockK 7 (seqK (code L (.clear zl5 c3_104) (postK zl5 (loopK L b3_75 (blockK 6 (seqK (code L (.clear zl6 c3_105) (retK [.tmp 6])) (retK [.tmp 6])))))) (postK zl5 (loopK L b3_75 (blockK 6 (seqK (code L (.clear zl6 c3_105) (retK [.tmp 6])) (retK [.tmp 6]))))))))) (s3_88 x7 x8 x8n x8c x9 x9n x10 x16 x17 x18 M) M) (P3_105 : Rec → (Option Addr) → (Option Addr) → Nat → Nat → Nat → Nat → Int → AMem → Res) (hP3_105 : P3_105 = fun (L : Rec) (x7 : Option Addr) (x8 : Option Addr) (x8n : Nat) (x8c : Nat) (x9 : Nat) (x9n : Nat) (x10 : Int) (M : AMem) => code L c3_105 (retK [.tmp 6]) (s3_105 x7 x8 x8n x8c x9 x9n x10 M) M) (x7 : Option Addr) (x8 : Option Addr) (x8n : Nat) (x8c : Nat) (x9 : Nat) (x9n : Nat) (x10 : Int) (x16 : Int) (M : AMem) : P3_75 L x7 x8 x8n x8c x9 x9n x10 x16 M =
  (if (decide (x16 < (Int.ofNat x8n))) = true
    then (match x8 with
      | some a_1 => (if (0 : Int) ≤ x16 ∧ x16 < (Int.ofNat x8n)
        then (Option.bind (ptrOf? (AMem.ld M a_1.block (a_1.off + ((Int.toNat x16) * 1)))) fun p_2 =>
          (Option.bind (L.call 14 [.pointer p_2] M) fun r_3 =>
          (Option.bind (intOf? .i64 (some r_3.1)) fun x_4 =>
          P3_88 L x7 x8 x8n x8c x9 x9n x10 x16 x_4 0 r_3.2)))
        else none)
      | none => none)
    else P3_105 L x7 x8 x8n x8c x9 x9n x10 M) := by
  subst hP3_75; subst hP3_88; subst hP3_105; exact (hb (blockK 6 (seqK (code L (.clear zl6 c3_105) (retK [.tmp 6])) (retK [.tmp 6]))) (s3_75 x7 x8 x8n x8c x9 x9n x10 x16 M) M).trans (by kernel_rfl)
theorem P3_75_eq (L : Rec) (hL : ∀ b K t A, L.loop b K t A = code L b (loopK L b K) t A) (x7 : Option Addr) (x8 : Option Addr) (x8n : Nat) (x8c : Nat) (x9 : Nat) (x9n : Nat) (x10 : Int) (x16 : Int) (M : AMem) : P3_75 L x7 x8 x8n x8c x9 x9n x10 x16 M =
  (if (decide (x16 < (Int.ofNat x8n))) = true
    then (match x8 with
      | some a_1 => (if (0 : Int) ≤ x16 ∧ x16 < (Int.ofNat x8n)
        then (Option.bind (ptrOf? (AMem.ld M a_1.block (a_1.off + ((Int.toNat x16) * 1)))) fun p_2 =>
          (Option.bind (L.call 14 [.pointer p_2] M) fun r_3 =>
          (Option.bind (intOf? .i64 (some r_3.1)) fun x_4 =>
          P3_88 L x7 x8 x8n x8c x9 x9n x10 x16 x_4 0 r_3.2)))
        else none)
      | none => none)
    else P3_105 L x7 x8 x8n x8c x9 x9n x10 M) := QP3_75_eq L b3_75 b3_88 c3_104 c3_105 c3_97 (hL b3_75) P3_75 (Classical.choose_spec XP3_75) P3_88 (Classical.choose_spec XP3_88) P3_105 (Classical.choose_spec XP3_105) x7 x8 x8n x8c x9 x9n x10 x16 M
theorem QP3_88_eq (L : Rec) (b3_75 b3_88 c3_104 c3_105 c3_97 : ACode) (hb : ∀ K t A, L.loop b3_88 K t A = code L (.post (.seq (.seq (.ops o3_91) (.cond (.tmp 155) (.skip) (.exit 8))) (.block 9 (.ops o3_96))) zl4) (loopK L b3_88 K) t A) (P3_88 : Rec → (Option Addr) → (Option Addr) → Nat → Nat → Nat → Nat → Int → Int → Int → Int → AMem → Res) (hP3_88 : P3_88 = fun (L : Rec) (x7 : Option Addr) (x8 : Option Addr) (x8n : Nat) (x8c : Nat) (x9 : Nat) (x9n : Nat) (x10 : Int) (x16 : Int) (x17 : Int) (x18 : Int) (M : AMem) => L.loop b3_88 (blockK 8 (seqK (code L (.clear zl4 c3_97) (blockK 7 (seqK (code L (.clear zl5 c3_104) (postK zl5 (loopK L b3_75 (blockK 6 (seqK (code L (.clear zl6 c3_105) (retK [.tmp 6])) (retK [.tmp 6])))))) (postK zl5 (loopK L b3_75 (blockK 6 (seqK (code L (.clear zl6 c3_105) (retK [.tmp 6])) (retK [.tmp 6])))))))) (blockK 7 (seqK (code L (.clear zl5 c3_104) (postK zl5 (loopK L b3_75 (blockK 6 (seqK (code L (.clear zl6 c3_105) (retK [.tmp 6])) (retK [.tmp 6])))))) (postK zl5 (loopK L b3_75 (blockK 6 (seqK (code L (.clear zl6 c3_105) (retK [.tmp 6])) (retK [.tmp 6]))))))))) (s3_88 x7 x8 x8n x8c x9 x9n x10 x16 x17 x18 M) M) (P3_97 : Rec → (Option Addr) → (Option Addr) → Nat → Nat → Nat → Nat → Int → Int → Int → Int → AMem → Res) (hP3_97 : P3_97 = fun (L : Rec) (x7 : Option Addr) (x8 : Option Addr) (x8n : Nat) (x8c : Nat) (x9 : Nat) (x9n : Nat) (x10 : Int) (x16 : Int) (x17 : Int) (x18 : Int) (M : AMem) => code L c3_97 (blockK 7 (seqK (code L (.clear zl5 c3_104) (postK zl5 (loopK L b3_75 (blockK 6 (seqK (code L (.clear zl6 c3_105) (retK [.tmp 6])) (retK [.tmp 6])))))) (postK zl5 (loopK L b3_75 (blockK 6 (seqK (code L (.clear zl6 c3_105) (retK [.tmp 6])) (retK [.tmp 6]))))))) (s3_97 x7 x8 x8n x8c x9 x9n x10 x16 x17 x18 M) M) (x7 : Option Addr) (x8 : Option Addr) (x8n : Nat) (x8c : Nat) (x9 : Nat) (x9n : Nat) (x10 : Int) (x16 : Int) (x17 : Int) (x18 : Int) (M : AMem) : P3_88 L x7 x8 x8n x8c x9 x9n x10 x16 x17 x18 M =
  (if (decide (x18 < (IntKind.wrap .i64 ((IntKind.wrap .i64 (2 * x17)) + 2)))) = true
    then (match x8 with
      | some a_1 => (if (0 : Int) ≤ x16 ∧ x16 < (Int.ofNat x8n)
        then (Option.bind (ptrOf? (AMem.ld M a_1.block (a_1.off + ((Int.toNat x16) * 1)))) fun p_2 =>
          (Option.bind (L.call 13 [.pointer p_2, .pointer x7] M) fun r_3 =>
          (Option.bind (boolOf? (some r_3.1)) fun q_4 =>
          (if q_4 = true
          then P3_88 L x7 x8 x8n x8c x9 x9n x10 x16 x17 (IntKind.wrap .i64 (x18 + 1)) r_3.2
          else P3_97 L x7 x8 x8n x8c x9 x9n x10 x16 x17 x18 r_3.2))))
        else none)
      | none => none)
    else P3_97 L x7 x8 x8n x8c x9 x9n x10 x16 x17 x18 M) := by
  subst hP3_88; subst hP3_97; exact (hb (blockK 8 (seqK (code L (.clear zl4 c3_97) (blockK 7 (seqK (code L (.clear zl5 c3_104) (postK zl5 (loopK L b3_75 (blockK 6 (seqK (code L (.clear zl6 c3_105) (retK [.tmp 6])) (retK [.tmp 6])))))) (postK zl5 (loopK L b3_75 (blockK 6 (seqK (code L (.clear zl6 c3_105) (retK [.tmp 6])) (retK [.tmp 6])))))))) (blockK 7 (seqK (code L (.clear zl5 c3_104) (postK zl5 (loopK L b3_75 (blockK 6 (seqK (code L (.clear zl6 c3_105) (retK [.tmp 6])) (retK [.tmp 6])))))) (postK zl5 (loopK L b3_75 (blockK 6 (seqK (code L (.clear zl6 c3_105) (retK [.tmp 6])) (retK [.tmp 6]))))))))) (s3_88 x7 x8 x8n x8c x9 x9n x10 x16 x17 x18 M) M).trans (by kernel_rfl)
theorem P3_88_eq (L : Rec) (hL : ∀ b K t A, L.loop b K t A = code L b (loopK L b K) t A) (x7 : Option Addr) (x8 : Option Addr) (x8n : Nat) (x8c : Nat) (x9 : Nat) (x9n : Nat) (x10 : Int) (x16 : Int) (x17 : Int) (x18 : Int) (M : AMem) : P3_88 L x7 x8 x8n x8c x9 x9n x10 x16 x17 x18 M =
  (if (decide (x18 < (IntKind.wrap .i64 ((IntKind.wrap .i64 (2 * x17)) + 2)))) = true
    then (match x8 with
      | some a_1 => (if (0 : Int) ≤ x16 ∧ x16 < (Int.ofNat x8n)
        then (Option.bind (ptrOf? (AMem.ld M a_1.block (a_1.off + ((Int.toNat x16) * 1)))) fun p_2 =>
          (Option.bind (L.call 13 [.pointer p_2, .pointer x7] M) fun r_3 =>
          (Option.bind (boolOf? (some r_3.1)) fun q_4 =>
          (if q_4 = true
          then P3_88 L x7 x8 x8n x8c x9 x9n x10 x16 x17 (IntKind.wrap .i64 (x18 + 1)) r_3.2
          else P3_97 L x7 x8 x8n x8c x9 x9n x10 x16 x17 x18 r_3.2))))
        else none)
      | none => none)
    else P3_97 L x7 x8 x8n x8c x9 x9n x10 x16 x17 x18 M) := QP3_88_eq L b3_75 b3_88 c3_104 c3_105 c3_97 (hL b3_88) P3_88 (Classical.choose_spec XP3_88) P3_97 (Classical.choose_spec XP3_97) x7 x8 x8n x8c x9 x9n x10 x16 x17 x18 M
theorem QP3_105_eq (L : Rec) (P3_105 : Rec → (Option Addr) → (Option Addr) → Nat → Nat → Nat → Nat → Int → AMem → Res) (hP3_105 : P3_105 = fun (L : Rec) (x7 : Option Addr) (x8 : Option Addr) (x8n : Nat) (x8c : Nat) (x9 : Nat) (x9n : Nat) (x10 : Int) (M : AMem) => code L (.seq (.ops o3_106) (.ret)) (retK [.tmp 6]) (s3_105 x7 x8 x8n x8c x9 x9n x10 M) M) (x7 : Option Addr) (x8 : Option Addr) (x8n : Nat) (x8c : Nat) (x9 : Nat) (x9n : Nat) (x10 : Int) (M : AMem) : P3_105 L x7 x8 x8n x8c x9 x9n x10 M =
  (if ((Int.ofNat x8n) == x10) = true
    then (Option.bind (L.call 17 [.pointer x7, .int .i64 0, .int .i64 1000] M) fun r_1 =>
      (Option.bind (sliceOf? (some r_1.1)) fun s_2 =>
      (Option.bind (L.call 16 [.slice s_2.1 s_2.2.1 s_2.2.2, .slice (some ⟨x9, 0, none⟩) x9n 1] r_1.2) fun r_3 =>
      (Option.bind (boolOf? (some r_3.1)) fun q_4 =>
      (if q_4 = true
      then (Option.bind (L.call 8 [] []) fun r_5 =>
        (Option.bind (boolOf? (some r_5.1)) fun q_6 =>
        some (.bool q_6, r_3.2)))
      else some (.bool false, r_3.2))))))
    else some (.bool false, M)) := by
  subst hP3_105; kernel_rfl
theorem P3_105_eq (L : Rec) (x7 : Option Addr) (x8 : Option Addr) (x8n : Nat) (x8c : Nat) (x9 : Nat) (x9n : Nat) (x10 : Int) (M : AMem) : P3_105 L x7 x8 x8n x8c x9 x9n x10 M =
  (if ((Int.ofNat x8n) == x10) = true
    then (Option.bind (L.call 17 [.pointer x7, .int .i64 0, .int .i64 1000] M) fun r_1 =>
      (Option.bind (sliceOf? (some r_1.1)) fun s_2 =>
      (Option.bind (L.call 16 [.slice s_2.1 s_2.2.1 s_2.2.2, .slice (some ⟨x9, 0, none⟩) x9n 1] r_1.2) fun r_3 =>
      (Option.bind (boolOf? (some r_3.1)) fun q_4 =>
      (if q_4 = true
      then (Option.bind (L.call 8 [] []) fun r_5 =>
        (Option.bind (boolOf? (some r_5.1)) fun q_6 =>
        some (.bool q_6, r_3.2)))
      else some (.bool false, r_3.2))))))
    else some (.bool false, M)) := QP3_105_eq L P3_105 (Classical.choose_spec XP3_105) x7 x8 x8n x8c x9 x9n x10 M
theorem QP3_97_eq (L : Rec) (b3_75 c3_104 c3_105 : ACode) (P3_97 : Rec → (Option Addr) → (Option Addr) → Nat → Nat → Nat → Nat → Int → Int → Int → Int → AMem → Res) (hP3_97 : P3_97 = fun (L : Rec) (x7 : Option Addr) (x8 : Option Addr) (x8n : Nat) (x8c : Nat) (x9 : Nat) (x9n : Nat) (x10 : Int) (x16 : Int) (x17 : Int) (x18 : Int) (M : AMem) => code L (.seq (.ops o3_98) (.cond (.tmp 181) (.seq (.ops o3_101) (.ret)) (.skip))) (blockK 7 (seqK (code L (.clear zl5 c3_104) (postK zl5 (loopK L b3_75 (blockK 6 (seqK (code L (.clear zl6 c3_105) (retK [.tmp 6])) (retK [.tmp 6])))))) (postK zl5 (loopK L b3_75 (blockK 6 (seqK (code L (.clear zl6 c3_105) (retK [.tmp 6])) (retK [.tmp 6]))))))) (s3_97 x7 x8 x8n x8c x9 x9n x10 x16 x17 x18 M) M) (P3_104 : Rec → (Option Addr) → (Option Addr) → Nat → Nat → Nat → Nat → Int → Int → AMem → Res) (hP3_104 : P3_104 = fun (L : Rec) (x7 : Option Addr) (x8 : Option Addr) (x8n : Nat) (x8c : Nat) (x9 : Nat) (x9n : Nat) (x10 : Int) (x16 : Int) (M : AMem) => code L c3_104 (postK zl5 (loopK L b3_75 (blockK 6 (seqK (code L (.clear zl6 c3_105) (retK [.tmp 6])) (retK [.tmp 6]))))) (s3_104 x7 x8 x8n x8c x9 x9n x10 x16 M) M) (x7 : Option Addr) (x8 : Option Addr) (x8n : Nat) (x8c : Nat) (x9 : Nat) (x9n : Nat) (x10 : Int) (x16 : Int) (x17 : Int) (x18 : Int) (M : AMem) : P3_97 L x7 x8 x8n x8c x9 x9n x10 x16 x17 x18 M =
  (match x8 with
    | some a_1 => (if (0 : Int) ≤ x16 ∧ x16 < (Int.ofNat x8n)
      then (Option.bind (ptrOf? (AMem.ld M a_1.block (a_1.off + ((Int.toNat x16) * 1)))) fun p_2 =>
        (Option.bind (L.call 15 [.pointer p_2] M) fun r_3 =>
        (Option.bind (boolOf? (some r_3.1)) fun q_4 =>
        (if (!q_4) = true
        then some (.bool false, r_3.2)
        else (if (decide (x18 > (IntKind.wrap .i64 ((IntKind.wrap .i64 (2 * x17)) + 1)))) = true
          then some (.bool false, r_3.2)
          else (if (decide (x17 > 0)) = true
            then (if (decide (x18 < (IntKind.wrap .i64 ((IntKind.wrap .i64 (2 * x17)) - 1)))) = true
              then some (.bool false, r_3.2)
              else P3_104 L x7 x8 x8n x8c x9 x9n x10 x16 r_3.2)
            else P3_104 L x7 x8 x8n x8c x9 x9n x10 x16 r_3.2))))))
      else none)
    | none => none) := by
  subst hP3_97; subst hP3_104; kernel_rfl
theorem P3_97_eq (L : Rec) (x7 : Option Addr) (x8 : Option Addr) (x8n : Nat) (x8c : Nat) (x9 : Nat) (x9n : Nat) (x10 : Int) (x16 : Int) (x17 : Int) (x18 : Int) (M : AMem) : P3_97 L x7 x8 x8n x8c x9 x9n x10 x16 x17 x18 M =
  (match x8 with
    | some a_1 => (if (0 : Int) ≤ x16 ∧ x16 < (Int.ofNat x8n)
      then (Option.bind (ptrOf? (AMem.ld M a_1.block (a_1.off + ((Int.toNat x16) * 1)))) fun p_2 =>
        (Option.bind (L.call 15 [.pointer p_2] M) fun r_3 =>
        (Option.bind (boolOf? (some r_3.1)) fun q_4 =>
        (if (!q_4) = true
        then some (.bool false, r_3.2)
        else (if (decide (x18 > (IntKind.wrap .i64 ((IntKind.wrap .i64 (2 * x17)) + 1)))) = true
          then some (.bool false, r_3.2)
          else (if (decide (x17 > 0)) = true
            then (if (decide (x18 < (IntKind.wrap .i64 ((IntKind.wrap .i64 (2 * x17)) - 1)))) = true
              then some (.bool false, r_3.2)
              else P3_104 L x7 x8 x8n x8c x9 x9n x10 x16 r_3.2)
            else P3_104 L x7 x8 x8n x8c x9 x9n x10 x16 r_3.2))))))
      else none)
    | none => none) := QP3_97_eq L b3_75 c3_104 c3_105 P3_97 (Classical.choose_spec XP3_97) P3_104 (Classical.choose_spec XP3_104) x7 x8 x8n x8c x9 x9n x10 x16 x17 x18 M
theorem QP3_104_eq (L : Rec) (b3_75 c3_105 : ACode) (P3_75 : Rec → (Option Addr) → (Option Addr) → Nat → Nat → Nat → Nat → Int → Int → AMem → Res) (hP3_75 : P3_75 = fun (L : Rec) (x7 : Option Addr) (x8 : Option Addr) (x8n : Nat) (x8c : Nat) (x9 : Nat) (x9n : Nat) (x10 : Int) (x16 : Int) (M : AMem) => L.loop b3_75 (blockK 6 (seqK (code L (.clear zl6 c3_105) (retK [.tmp 6])) (retK [.tmp 6]))) (s3_75 x7 x8 x8n x8c x9 x9n x10 x16 M) M) (P3_104 : Rec → (Option Addr) → (Option Addr) → Nat → Nat → Nat → Nat → Int → Int → AMem → Res) (hP3_104 : P3_104 = fun (L : Rec) (x7 : Option Addr) (x8 : Option Addr) (x8n : Nat) (x8c : Nat) (x9 : Nat) (x9n : Nat) (x10 : Int) (x16 : Int) (M : AMem) => code L (.ops o3_104) (postK zl5 (loopK L b3_75 (blockK 6 (seqK (code L (.clear zl6 c3_105) (retK [.tmp 6])) (retK [.tmp 6]))))) (s3_104 x7 x8 x8n x8c x9 x9n x10 x16 M) M) (x7 : Option Addr) (x8 : Option Addr) (x8n : Nat) (x8c : Nat) (x9 : Nat) (x9n : Nat) (x10 : Int) (x16 : Int) (M : AMem) : P3_104 L x7 x8 x8n x8c x9 x9n x10 x16 M =
  P3_75 L x7 x8 x8n x8c x9 x9n x10 (IntKind.wrap .i64 (x16 + 1)) M := by
  subst hP3_75; subst hP3_104; kernel_rfl
theorem P3_104_eq (L : Rec) (x7 : Option Addr) (x8 : Option Addr) (x8n : Nat) (x8c : Nat) (x9 : Nat) (x9n : Nat) (x10 : Int) (x16 : Int) (M : AMem) : P3_104 L x7 x8 x8n x8c x9 x9n x10 x16 M =
  P3_75 L x7 x8 x8n x8c x9 x9n x10 (IntKind.wrap .i64 (x16 + 1)) M := QP3_104_eq L b3_75 c3_105 P3_75 (Classical.choose_spec XP3_75) P3_104 (Classical.choose_spec XP3_104) x7 x8 x8n x8c x9 x9n x10 x16 M
theorem QE3 (L : Rec) (c3_12 : ACode) (P3_12 : Rec → (Option Addr) → Nat → Nat → (Option Addr) → Nat → Nat → Nat → (Option Addr) → AMem → Res) (hP3_12 : P3_12 = fun (L : Rec) (x1 : Option Addr) (x1n : Nat) (x1c : Nat) (x2 : Option Addr) (x2n : Nat) (x2c : Nat) (x3 : Nat) (x7 : Option Addr) (M : AMem) => code L c3_12 (retK [.tmp 6]) (s3_12 x1 x1n x1c x2 x2n x2c x3 x7 M) M) (x0_0 : Int) (x0_1 : Int) (x1 : Option Addr) (x1n : Nat) (x1c : Nat) (x2 : Option Addr) (x2n : Nat) (x2c : Nat) (M : AMem) : enterF L ⟨195, [.tmp 6], .seq (.ops o3_1) (.seq (.seq (.ops o3_4) (.cond (.tmp 41) (.seq (.ops o3_7) (.ret)) (.skip))) (.seq (.ops o3_11) (.clear zl8 c3_12)))⟩ [.agg #[.int .i64 x0_0, .int .i64 x0_1], .slice x1 x1n x1c, .slice x2 x2n x2c] M =
  (Option.bind (intOf? .i64 (AMem.ld (M ++ [AObj.cells [.int .i64 x0_0, .int .i64 x0_1] ⟨false, 0⟩]) (List.length M) 0)) fun x_1 =>
    (Option.bind (intOf? .i64 (AMem.ld (M ++ [AObj.cells [.int .i64 x0_0, .int .i64 x0_1] ⟨false, 0⟩]) (List.length M) 1)) fun x_2 =>
    (Option.bind (L.call 6 [.agg #[.int .i64 x_1, .int .i64 x_2]] []) fun r_3 =>
    (Option.bind (boolOf? (some r_3.1)) fun q_4 =>
    (if (!q_4) = true
    then (Option.bind (L.call 8 [] []) fun r_5 =>
      (Option.bind (boolOf? (some r_5.1)) fun q_6 =>
      some (.bool q_6, (M ++ [AObj.cells [.int .i64 x0_0, .int .i64 x0_1] ⟨false, 0⟩]))))
    else (Option.bind (intOf? .i64 (AMem.ld (M ++ [AObj.cells [.int .i64 x0_0, .int .i64 x0_1] ⟨false, 0⟩]) (List.length M) 0)) fun x_7 =>
      (if (decide (x_7 > 20)) = true
      then (Option.bind (L.call 8 [] []) fun r_8 =>
        (Option.bind (boolOf? (some r_8.1)) fun q_9 =>
        some (.bool q_9, (M ++ [AObj.cells [.int .i64 x0_0, .int .i64 x0_1] ⟨false, 0⟩]))))
      else (Option.bind (intOf? .i64 (AMem.ld (M ++ [AObj.cells [.int .i64 x0_0, .int .i64 x0_1] ⟨false, 0⟩]) (List.length M) 1)) fun x_10 =>
        (if (decide (x_10 > 5)) = true
        then (Option.bind (L.call 8 [] []) fun r_11 =>
          (Option.bind (boolOf? (some r_11.1)) fun q_12 =>
          some (.bool q_12, (M ++ [AObj.cells [.int .i64 x0_0, .int .i64 x0_1] ⟨false, 0⟩]))))
        else (Option.bind (L.call 7 [.slice x1 x1n x1c] (M ++ [AObj.cells [.int .i64 x0_0, .int .i64 x0_1] ⟨false, 0⟩])) fun r_13 =>
          (Option.bind (boolOf? (some r_13.1)) fun q_14 =>
          (if (!q_14) = true
          then (Option.bind (L.call 8 [] []) fun r_15 =>
            (Option.bind (boolOf? (some r_15.1)) fun q_16 =>
            some (.bool q_16, r_13.2)))
          else (if (decide ((Int.ofNat x2n) > 150)) = true
            then (Option.bind (L.call 8 [] []) fun r_17 =>
              (Option.bind (boolOf? (some r_17.1)) fun q_18 =>
              some (.bool q_18, r_13.2)))
            else (Option.bind (intOf? .i64 (AMem.ld r_13.2 (List.length M) 0)) fun x_19 =>
              (Option.bind (intOf? .i64 (AMem.ld r_13.2 (List.length M) 1)) fun x_20 =>
              (Option.bind (L.call 10 [.agg #[.int .i64 x_19, .int .i64 x_20]] []) fun r_21 =>
              (Option.bind (intOf? .i64 (some r_21.1)) fun x_22 =>
              (Option.bind (L.call 9 [.int .i64 x_22] r_13.2) fun r_23 =>
              (Option.bind (ptrOf? (some r_23.1)) fun p_24 =>
              P3_12 L x1 x1n x1c x2 x2n x2c (List.length M) p_24 r_23.2))))))))))))))))))) := by
  subst hP3_12; kernel_rfl
theorem E3 (L : Rec) (x0_0 : Int) (x0_1 : Int) (x1 : Option Addr) (x1n : Nat) (x1c : Nat) (x2 : Option Addr) (x2n : Nat) (x2c : Nat) (M : AMem) : enterF L a3 [.agg #[.int .i64 x0_0, .int .i64 x0_1], .slice x1 x1n x1c, .slice x2 x2n x2c] M =
  (Option.bind (intOf? .i64 (AMem.ld (M ++ [AObj.cells [.int .i64 x0_0, .int .i64 x0_1] ⟨false, 0⟩]) (List.length M) 0)) fun x_1 =>
    (Option.bind (intOf? .i64 (AMem.ld (M ++ [AObj.cells [.int .i64 x0_0, .int .i64 x0_1] ⟨false, 0⟩]) (List.length M) 1)) fun x_2 =>
    (Option.bind (L.call 6 [.agg #[.int .i64 x_1, .int .i64 x_2]] []) fun r_3 =>
    (Option.bind (boolOf? (some r_3.1)) fun q_4 =>
    (if (!q_4) = true
    then (Option.bind (L.call 8 [] []) fun r_5 =>
      (Option.bind (boolOf? (some r_5.1)) fun q_6 =>
      some (.bool q_6, (M ++ [AObj.cells [.int .i64 x0_0, .int .i64 x0_1] ⟨false, 0⟩]))))
    else (Option.bind (intOf? .i64 (AMem.ld (M ++ [AObj.cells [.int .i64 x0_0, .int .i64 x0_1] ⟨false, 0⟩]) (List.length M) 0)) fun x_7 =>
      (if (decide (x_7 > 20)) = true
      then (Option.bind (L.call 8 [] []) fun r_8 =>
        (Option.bind (boolOf? (some r_8.1)) fun q_9 =>
        some (.bool q_9, (M ++ [AObj.cells [.int .i64 x0_0, .int .i64 x0_1] ⟨false, 0⟩]))))
      else (Option.bind (intOf? .i64 (AMem.ld (M ++ [AObj.cells [.int .i64 x0_0, .int .i64 x0_1] ⟨false, 0⟩]) (List.length M) 1)) fun x_10 =>
        (if (decide (x_10 > 5)) = true
        then (Option.bind (L.call 8 [] []) fun r_11 =>
          (Option.bind (boolOf? (some r_11.1)) fun q_12 =>
          some (.bool q_12, (M ++ [AObj.cells [.int .i64 x0_0, .int .i64 x0_1] ⟨false, 0⟩]))))
        else (Option.bind (L.call 7 [.slice x1 x1n x1c] (M ++ [AObj.cells [.int .i64 x0_0, .int .i64 x0_1] ⟨false, 0⟩])) fun r_13 =>
          (Option.bind (boolOf? (some r_13.1)) fun q_14 =>
          (if (!q_14) = true
          then (Option.bind (L.call 8 [] []) fun r_15 =>
            (Option.bind (boolOf? (some r_15.1)) fun q_16 =>
            some (.bool q_16, r_13.2)))
          else (if (decide ((Int.ofNat x2n) > 150)) = true
            then (Option.bind (L.call 8 [] []) fun r_17 =>
              (Option.bind (boolOf? (some r_17.1)) fun q_18 =>
              some (.bool q_18, r_13.2)))
            else (Option.bind (intOf? .i64 (AMem.ld r_13.2 (List.length M) 0)) fun x_19 =>
              (Option.bind (intOf? .i64 (AMem.ld r_13.2 (List.length M) 1)) fun x_20 =>
              (Option.bind (L.call 10 [.agg #[.int .i64 x_19, .int .i64 x_20]] []) fun r_21 =>
              (Option.bind (intOf? .i64 (some r_21.1)) fun x_22 =>
              (Option.bind (L.call 9 [.int .i64 x_22] r_13.2) fun r_23 =>
              (Option.bind (ptrOf? (some r_23.1)) fun p_24 =>
              P3_12 L x1 x1n x1c x2 x2n x2c (List.length M) p_24 r_23.2))))))))))))))))))) := QE3 L c3_12 P3_12 (Classical.choose_spec XP3_12) x0_0 x0_1 x1 x1n x1c x2 x2n x2c M
end Go.Proofs.Ytmpgngilhhmlcaa
