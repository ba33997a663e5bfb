/- What the pieces of some functions come to. -/
import Derived.Test.YtpnknolehckfhaaCode
set_option linter.unusedVariables false
set_option maxRecDepth 100000
namespace Go.Proofs.Ytpnknolehckfhaa
open Go Go.Ax
/-! #### skylightlaw34.PeekPlays -/
noncomputable def k4_5 (L : Rec) : KT := seqK (code L (.seq (.ops o4_11) (.seq (.ops o4_13) (.seq (.ops o4_15) (.seq (.ops o4_17) (.clear zl18 c4_18))))) (retK [.tmp 8])) (retK [.tmp 8])
def s4_5 (x1 : Int) (x2 : Option Addr) (x2n : Nat) (x2c : Nat) (x3 : Option Addr) (x3n : Nat) (x3c : Nat) (x4 : Nat) (x54 : Bool) (M : AMem) : List Value := [junk, .int .i64 x1, .slice x2 x2n x2c, .slice x3 x3n x3c, .pointer (some ⟨x4, 0, none⟩), junk, junk, junk, junk, junk, junk, junk, junk, junk, junk, junk, junk, junk, junk, junk, junk, junk, junk, junk, junk, junk, junk, junk, junk, junk, junk, junk, junk, junk, junk, junk, junk, junk, junk, junk, junk, junk, junk, junk, junk, junk, junk, junk, junk, junk, junk, junk, junk, junk, .bool x54, junk, junk, junk, junk, junk, junk, junk, junk, junk, junk, junk, junk, junk, junk, junk, junk, junk, junk, junk, junk, junk, junk, junk, junk, junk, junk, junk, junk, junk, junk, junk, junk, junk, junk, junk, junk, junk, junk, junk, junk, junk, junk, junk, junk, junk, junk, junk, junk, junk, junk, junk, junk, junk, junk, junk, junk, junk, junk, junk, junk, junk, junk, junk, junk, junk, junk, junk, junk, junk, junk, junk, junk, junk, junk, junk, junk, junk, junk, junk, junk, junk, junk, junk, junk, junk, junk, junk, junk, junk, junk, junk, junk, junk, junk, junk, junk, junk, junk, junk, junk, junk, junk, junk, junk, junk, junk, junk, junk, junk, junk, junk, junk, junk, junk, junk, junk, junk, junk, junk, junk, junk, junk, junk, junk, junk, junk, junk, junk, junk, junk, junk, junk, junk, junk, junk, junk, junk, junk, junk, junk, junk, junk, junk, junk, junk, junk, junk, junk, junk, junk, junk, junk, junk, junk, junk, junk, junk, junk, junk, junk, junk, junk, junk, junk, junk, junk, junk, junk, junk, junk, junk, junk, junk, junk, junk, junk, junk, junk, junk, junk, junk, junk, junk, junk, junk, junk, junk, junk, junk, junk, junk, junk, junk, junk, junk, junk, junk, junk, junk, junk, junk, junk, junk]
theorem XP4_5 : ∃ P : Rec → Int → (Option Addr) → Nat → Nat → (Option Addr) → Nat → Nat → Nat → Bool → AMem → Res, P = fun (L : Rec) (x1 : Int) (x2 : Option Addr) (x2n : Nat) (x2c : Nat) (x3 : Option Addr) (x3n : Nat) (x3c : Nat) (x4 : Nat) (x54 : Bool) (M : AMem) => code L c4_5 (k4_5 L) (s4_5 x1 x2 x2n x2c x3 x3n x3c x4 x54 M) M := ⟨_, rfl⟩
noncomputable def P4_5 : Rec → Int → (Option Addr) → Nat → Nat → (Option Addr) → Nat → Nat → Nat → Bool → AMem → Res := Classical.choose XP4_5
noncomputable def k4_18 (L : Rec) : KT := retK [.tmp 8]
def s4_18 (x2 : Option Addr) (x2n : Nat) (x2c : Nat) (x3 : Option Addr) (x3n : Nat) (x3c : Nat) (x4 : Nat) (x9 : Nat) (x11 : Option Addr) (x12 : Option Addr) (x13 : Nat) (x14 : Bool) (M : AMem) : List Value := [junk, junk, .slice x2 x2n x2c, .slice x3 x3n x3c, .pointer (some ⟨x4, 0, none⟩), junk, junk, junk, junk, .pointer (some ⟨x9, 0, none⟩), junk, .pointer x11, .pointer x12, .pointer (some ⟨x13, 0, none⟩), .bool x14, junk, junk, junk, junk, junk, junk, junk, junk, junk, junk, junk, junk, junk, junk, junk, junk, junk, junk, junk, junk, junk, junk, junk, junk, junk, junk, junk, junk, junk, junk, junk, junk, junk, junk, junk, junk, junk, junk, junk, junk, junk, junk, junk, junk, junk, junk, junk, junk, junk, junk, junk, junk, junk, junk, junk, junk, junk, junk, junk, junk, junk, junk, junk, junk, junk, junk, junk, junk, junk, junk, junk, junk, junk, junk, junk, junk, junk, junk, junk, junk, junk, junk, junk, junk, junk, junk, junk, junk, junk, junk, junk, junk, junk, junk, junk, junk, junk, junk, junk, junk, junk, junk, junk, junk, junk, junk, junk, junk, junk, junk, junk, junk, junk, junk, junk, junk, junk, junk, junk, junk, junk, junk, junk, junk, junk, junk, junk, junk, junk, junk, junk, junk, junk, junk, junk, junk, junk, junk, junk, junk, junk, junk, junk, junk, junk, junk, junk, junk, junk, junk, junk, junk, junk, junk, junk, junk, junk, junk, junk, junk, junk, junk, junk, junk, junk, junk, junk, junk, junk, junk, junk, junk, junk, junk, junk, junk, junk, junk, junk, junk, junk, junk, junk, junk, junk, junk, junk, junk, junk, junk, junk, junk, junk, junk, junk, junk, junk, junk, junk, junk, junk, junk, junk, junk, junk, junk, junk, junk, junk, junk, junk, junk, junk, junk, junk, junk, junk, junk, junk, junk, junk, junk, junk, junk, junk, junk, junk, junk, junk, junk, junk, junk, junk, junk, junk, junk, junk, junk, junk, junk, junk, junk, junk]
theorem XP4_18 : ∃ P : Rec → (Option Addr) → Nat → Nat → (Option Addr) → Nat → Nat → Nat → Nat → (Option Addr) → (Option Addr) → Nat → Bool → AMem → Res, P = fun (L : Rec) (x2 : Option Addr) (x2n : Nat) (x2c : Nat) (x3 : Option Addr) (x3n : Nat) (x3c : Nat) (x4 : Nat) (x9 : Nat) (x11 : Option Addr) (x12 : Option Addr) (x13 : Nat) (x14 : Bool) (M : AMem) => code L c4_18 (k4_18 L) (s4_18 x2 x2n x2c x3 x3n x3c x4 x9 x11 x12 x13 x14 M) M := ⟨_, rfl⟩
noncomputable def P4_18 : Rec → (Option Addr) → Nat → Nat → (Option Addr) → Nat → Nat → Nat → Nat → (Option Addr) → (Option Addr) → Nat → Bool → AMem → Res := Classical.choose XP4_18
noncomputable def k4_34 (L : Rec) : KT := blockK 0 (seqK (code L (.clear zl16 c4_53) (retK [.tmp 8])) (retK [.tmp 8]))
def s4_34 (x2 : Option Addr) (x2n : Nat) (x2c : Nat) (x3 : Option Addr) (x3n : Nat) (x3c : Nat) (x4 : Nat) (x9 : Nat) (x11 : Option Addr) (x12 : Option Addr) (x13 : Nat) (x15 : Option Addr) (x15n : Nat) (x15c : Nat) (x16 : Option Addr) (x16n : Nat) (x16c : Nat) (x17 : Int) (M : AMem) : List Value := [junk, junk, .slice x2 x2n x2c, .slice x3 x3n x3c, .pointer (some ⟨x4, 0, none⟩), junk, junk, junk, junk, .pointer (some ⟨x9, 0, none⟩), junk, .pointer x11, .pointer x12, .pointer (some ⟨x13, 0, none⟩), junk, .slice x15 x15n x15c, .slice x16 x16n x16c, .int .i64 x17, junk, junk, junk, junk, junk, junk, junk, junk, junk, junk, junk, junk, junk, junk, junk, junk, junk, junk, junk, junk, junk, junk, junk, junk, junk, junk, junk, junk, junk, junk, junk, junk, junk, junk, junk, junk, junk, junk, junk, junk, junk, junk, junk, junk, junk, junk, junk, junk, junk, junk, junk, junk, junk, junk, junk, junk, junk, junk, junk, junk, junk, junk, junk, junk, junk, junk, junk, junk, junk, junk, junk, junk, junk, junk, junk, junk, junk, junk, junk, junk, junk, junk, junk, junk, junk, junk, junk, junk, junk, junk, junk, junk, junk, junk, junk, junk, junk, junk, junk, junk, junk, junk, junk, junk, junk, junk, junk, junk, junk, junk, junk, junk, junk, junk, junk, junk, junk, junk, junk, junk, junk, junk, junk, junk, junk, junk, junk, junk, junk, junk, junk, junk, junk, junk, junk, junk, junk, junk, junk, junk, junk, junk, junk, junk, junk, junk, junk, junk, junk, junk, junk, junk, junk, junk, junk, junk, junk, junk, junk, junk, junk, junk, junk, junk, junk, junk, junk, junk, junk, junk, junk, junk, junk, junk, junk, junk, junk, junk, junk, junk, junk, junk, junk, junk, junk, junk, junk, junk, junk, junk, junk, junk, junk, junk, junk, junk, junk, junk, junk, junk, junk, junk, junk, junk, junk, junk, junk, junk, junk, junk, junk, junk, junk, junk, junk, junk, junk, junk, junk, junk, junk, junk, junk, junk, junk, junk, junk, junk, junk, junk, junk, junk, junk, junk, junk, junk, junk, junk, junk, junk]
theorem XP4_34 : ∃ P : Rec → (Option Addr) → Nat → Nat → (Option Addr) → Nat → Nat → Nat → Nat → (Option Addr) → (Option Addr) → Nat → (Option Addr) → Nat → Nat → (Option Addr) → Nat → Nat → Int → AMem → Res, P = fun (L : Rec) (x2 : Option Addr) (x2n : Nat) (x2c : Nat) (x3 : Option Addr) (x3n : Nat) (x3c : Nat) (x4 : Nat) (x9 : Nat) (x11 : Option Addr) (x12 : Option Addr) (x13 : Nat) (x15 : Option Addr) (x15n : Nat) (x15c : Nat) (x16 : Option Addr) (x16n : Nat) (x16c : Nat) (x17 : Int) (M : AMem) => L.loop b4_34 (k4_34 L) (s4_34 x2 x2n x2c x3 x3n x3c x4 x9 x11 x12 x13 x15 x15n x15c x16 x16n x16c x17 M) M := ⟨_, rfl⟩
noncomputable def P4_34 : Rec → (Option Addr) → Nat → Nat → (Option Addr) → Nat → Nat → Nat → Nat → (Option Addr) → (Option Addr) → Nat → (Option Addr) → Nat → Nat → (Option Addr) → Nat → Nat → Int → AMem → Res := Classical.choose XP4_34
noncomputable def k4_45 (L : Rec) : KT := blockK 1 (seqK (code L (.clear zl8 c4_52) (postK zl8 (loopK L b4_34 (blockK 0 (seqK (code L (.clear zl16 c4_53) (retK [.tmp 8])) (retK [.tmp 8])))))) (postK zl8 (loopK L b4_34 (blockK 0 (seqK (code L (.clear zl16 c4_53) (retK [.tmp 8])) (retK [.tmp 8]))))))
def s4_45 (x2 : Option Addr) (x2n : Nat) (x2c : Nat) (x3 : Option Addr) (x3n : Nat) (x3c : Nat) (x4 : Nat) (x9 : Nat) (x11 : Option Addr) (x12 : Option Addr) (x13 : Nat) (x15 : Option Addr) (x15n : Nat) (x15c : Nat) (x16 : Option Addr) (x16n : Nat) (x16c : Nat) (x17 : Int) (x18 : Nat) (x19 : Bool) (M : AMem) : List Value := [junk, junk, .slice x2 x2n x2c, .slice x3 x3n x3c, .pointer (some ⟨x4, 0, none⟩), junk, junk, junk, junk, .pointer (some ⟨x9, 0, none⟩), junk, .pointer x11, .pointer x12, .pointer (some ⟨x13, 0, none⟩), junk, .slice x15 x15n x15c, .slice x16 x16n x16c, .int .i64 x17, .pointer (some ⟨x18, 0, none⟩), .bool x19, junk, junk, junk, junk, junk, junk, junk, junk, junk, junk, junk, junk, junk, junk, junk, junk, junk, junk, junk, junk, junk, junk, junk, junk, junk, junk, junk, junk, junk, junk, junk, junk, junk, junk, junk, junk, junk, junk, junk, junk, junk, junk, junk, junk, junk, junk, junk, junk, junk, junk, junk, junk, junk, junk, junk, junk, junk, junk, junk, junk, junk, junk, junk, junk, junk, junk, junk, junk, junk, junk, junk, junk, junk, junk, junk, junk, junk, junk, junk, junk, junk, junk, junk, junk, junk, junk, junk, junk, junk, junk, junk, junk, junk, junk, junk, junk, junk, junk, junk, junk, junk, junk, junk, junk, junk, junk, junk, junk, junk, junk, junk, junk, junk, junk, junk, junk, junk, junk, junk, junk, junk, junk, junk, junk, junk, junk, junk, junk, junk, junk, junk, junk, junk, junk, junk, junk, junk, junk, junk, junk, junk, junk, junk, junk, junk, junk, junk, junk, junk, junk, junk, junk, junk, junk, junk, junk, junk, junk, junk, junk, junk, junk, junk, junk, junk, junk, junk, junk, junk, junk, junk, junk, junk, junk, junk, junk, junk, junk, junk, junk, junk, junk, junk, junk, junk, junk, junk, junk, junk, junk, junk, junk, junk, junk, junk, junk, junk, junk, junk, junk, junk, junk, junk, junk, junk, junk, junk, junk, junk, junk, junk, junk, junk, junk, junk, junk, junk, junk, junk, junk, junk, junk, junk, junk, junk, junk, junk, junk, junk, junk, junk, junk, junk, junk, junk, junk, junk, junk]
theorem XP4_45 : ∃ P : Rec → (Option Addr) → Nat → Nat → (Option Addr) → Nat → Nat → Nat → Nat → (Option Addr) → (Option Addr) → Nat → (Option Addr) → Nat → Nat → (Option Addr) → Nat → Nat → Int → Nat → Bool → AMem → Res, P = fun (L : Rec) (x2 : Option Addr) (x2n : Nat) (x2c : Nat) (x3 : Option Addr) (x3n : Nat) (x3c : Nat) (x4 : Nat) (x9 : Nat) (x11 : Option Addr) (x12 : Option Addr) (x13 : Nat) (x15 : Option Addr) (x15n : Nat) (x15c : Nat) (x16 : Option Addr) (x16n : Nat) (x16c : Nat) (x17 : Int) (x18 : Nat) (x19 : Bool) (M : AMem) => code L c4_45 (k4_45 L) (s4_45 x2 x2n x2c x3 x3n x3c x4 x9 x11 x12 x13 x15 x15n x15c x16 x16n x16c x17 x18 x19 M) M := ⟨_, rfl⟩
noncomputable def P4_45 : Rec → (Option Addr) → Nat → Nat → (Option Addr) → Nat → Nat → Nat → Nat → (Option Addr) → (Option Addr) → Nat → (Option Addr) → Nat → Nat → (Option Addr) → Nat → Nat → Int → Nat → Bool → AMem → Res := Classical.choose XP4_45
noncomputable def k4_53 (L : Rec) : KT := retK [.tmp 8]
def s4_53 (x3 : Option Addr) (x3n : Nat) (x3c : Nat) (x4 : Nat) (x9 : Nat) (x11 : Option Addr) (x12 : Option Addr) (x13 : Nat) (x15 : Option Addr) (x15n : Nat) (x15c : Nat) (x16 : Option Addr) (x16n : Nat) (x16c : Nat) (M : AMem) : List Value := [junk, junk, junk, .slice x3 x3n x3c, .pointer (some ⟨x4, 0, none⟩), junk, junk, junk, junk, .pointer (some ⟨x9, 0, none⟩), junk, .pointer x11, .pointer x12, .pointer (some ⟨x13, 0, none⟩), junk, .slice x15 x15n x15c, .slice x16 x16n x16c, junk, junk, junk, junk, junk, junk, junk, junk, junk, junk, junk, junk, junk, junk, junk, junk, junk, junk, junk, junk, junk, junk, junk, junk, junk, junk, junk, junk, junk, junk, junk, junk, junk, junk, junk, junk, junk, junk, junk, junk, junk, junk, junk, junk, junk, junk, junk, junk, junk, junk, junk, junk, junk, junk, junk, junk, junk, junk, junk, junk, junk, junk, junk, junk, junk, junk, junk, junk, junk, junk, junk, junk, junk, junk, junk, junk, junk, junk, junk, junk, junk, junk, junk, junk, junk, junk, junk, junk, junk, junk, junk, junk, junk, junk, junk, junk, junk, junk, junk, junk, junk, junk, junk, junk, junk, junk, junk, junk, junk, junk, junk, junk, junk, junk, junk, junk, junk, junk, junk, junk, junk, junk, junk, junk, junk, junk, junk, junk, junk, junk, junk, junk, junk, junk, junk, junk, junk, junk, junk, junk, junk, junk, junk, junk, junk, junk, junk, junk, junk, junk, junk, junk, junk, junk, junk, junk, junk, junk, junk, junk, junk, junk, junk, junk, junk, junk, junk, junk, junk, junk, junk, junk, junk, junk, junk, junk, junk, junk, junk, junk, junk, junk, junk, junk, junk, junk, junk, junk, junk, junk, junk, junk, junk, junk, junk, junk, junk, junk, junk, junk, junk, junk, junk, junk, junk, junk, junk, junk, junk, junk, junk, junk, junk, junk, junk, junk, junk, junk, junk, junk, junk, junk, junk, junk, junk, junk, junk, junk, junk, junk, junk, junk, junk, junk, junk, junk, junk, junk, junk, junk, junk]
theorem XP4_53 : ∃ P : Rec → (Option Addr) → Nat → Nat → Nat → Nat → (Option Addr) → (Option Addr) → Nat → (Option Addr) → Nat → Nat → (Option Addr) → Nat → Nat → AMem → Res, P = fun (L : Rec) (x3 : Option Addr) (x3n : Nat) (x3c : Nat) (x4 : Nat) (x9 : Nat) (x11 : Option Addr) (x12 : Option Addr) (x13 : Nat) (x15 : Option Addr) (x15n : Nat) (x15c : Nat) (x16 : Option Addr) (x16n : Nat) (x16c : Nat) (M : AMem) => code L c4_53 (k4_53 L) (s4_53 x3 x3n x3c x4 x9 x11 x12 x13 x15 x15n x15c x16 x16n x16c M) M := ⟨_, rfl⟩
noncomputable def P4_53 : Rec → (Option Addr) → Nat → Nat → Nat → Nat → (Option Addr) → (Option Addr) → Nat → (Option Addr) → Nat → Nat → (Option Addr) → Nat → Nat → AMem → Res := Classical.choose XP4_53
noncomputable def k4_52 (L : Rec) : KT := postK zl8 (loopK L b4_34 (blockK 0 (seqK (code L (.clear zl16 c4_53) (retK [.tmp 8])) (retK [.tmp 8]))))
def s4_52 (x2 : Option Addr) (x2n : Nat) (x2c : Nat) (x3 : Option Addr) (x3n : Nat) (x3c : Nat) (x4 : Nat) (x9 : Nat) (x11 : Option Addr) (x12 : Option Addr) (x13 : Nat) (x15 : Option Addr) (x15n : Nat) (x15c : Nat) (x16 : Option Addr) (x16n : Nat) (x16c : Nat) (x17 : Int) (M : AMem) : List Value := [junk, junk, .slice x2 x2n x2c, .slice x3 x3n x3c, .pointer (some ⟨x4, 0, none⟩), junk, junk, junk, junk, .pointer (some ⟨x9, 0, none⟩), junk, .pointer x11, .pointer x12, .pointer (some ⟨x13, 0, none⟩), junk, .slice x15 x15n x15c, .slice x16 x16n x16c, .int .i64 x17, junk, junk, junk, junk, junk, junk, junk, junk, junk, junk, junk, junk, junk, junk, junk, junk, junk, junk, junk, junk, junk, junk, junk, junk, junk, junk, junk, junk, junk, junk, junk, junk, junk, junk, junk, junk, junk, junk, junk, junk, junk, junk, junk, junk, junk, junk, junk, junk, junk, junk, junk, junk, junk, junk, junk, junk, junk, junk, junk, junk, junk, junk, junk, junk, junk, junk, junk, junk, junk, junk, junk, junk, junk, junk, junk, junk, junk, junk, junk, junk, junk, junk, junk, junk, junk, junk, junk, junk, junk, junk, junk, junk, junk, junk, junk, junk, junk, junk, junk, junk, junk, junk, junk, junk, junk, junk, junk, junk, junk, junk, junk, junk, junk, junk, junk, junk, junk, junk, junk, junk, junk, junk, junk, junk, junk, junk, junk, junk, junk, junk, junk, junk, junk, junk, junk, junk, junk, junk, junk, junk, junk, junk, junk, junk, junk, junk, junk, junk, junk, junk, junk, junk, junk, junk, junk, junk, junk, junk, junk, junk, junk, junk, junk, junk, junk, junk, junk, junk, junk, junk, junk, junk, junk, junk, junk, junk, junk, junk, junk, junk, junk, junk, junk, junk, junk, junk, junk, junk, junk, junk, junk, junk, junk, junk, junk, junk, junk, junk, junk, junk, junk, junk, junk, junk, junk, junk, junk, junk, junk, junk, junk, junk, junk, junk, junk, junk, junk, junk, junk, junk, junk, junk, junk, junk, junk, junk, junk, junk, junk, junk, junk, junk, junk, junk, junk, junk, junk, junk, junk, junk]
theorem XP4_52 : ∃ P : Rec → (Option Addr) → Nat → Nat → (Option Addr) → Nat → Nat → Nat → Nat → (Option Addr) → (Option Addr) → Nat → (Option Addr) → Nat → Nat → (Option Addr) → Nat → Nat → Int → AMem → Res, P = fun (L : Rec) (x2 : Option Addr) (x2n : Nat) (x2c : Nat) (x3 : Option Addr) (x3n : Nat) (x3c : Nat) (x4 : Nat) (x9 : Nat) (x11 : Option Addr) (x12 : Option Addr) (x13 : Nat) (x15 : Option Addr) (x15n : Nat) (x15c : Nat) (x16 : Option Addr) (x16n : Nat) (x16c : Nat) (x17 : Int) (M : AMem) => code L c4_52 (k4_52 L) (s4_52 x2 x2n x2c x3 x3n x3c x4 x9 x11 x12 x13 x15 x15n x15c x16 x16n x16c x17 M) M := ⟨_, rfl⟩
noncomputable def P4_52 : Rec → (Option Addr) → Nat → Nat → (Option Addr) → Nat → Nat → Nat → Nat → (Option Addr) → (Option Addr) → Nat → (Option Addr) → Nat → Nat → (Option Addr) → Nat → Nat → Int → AMem → Res := Classical.choose XP4_52
noncomputable def k4_57 (L : Rec) : KT := blockK 2 (seqK (code L (.clear zl15 c4_86) (retK [.tmp 8])) (retK [.tmp 8]))
def s4_57 (x3 : Option Addr) (x3n : Nat) (x3c : Nat) (x4 : Nat) (x9 : Nat) (x11 : Option Addr) (x12 : Option Addr) (x13 : Nat) (x15 : Option Addr) (x15n : Nat) (x15c : Nat) (x16 : Option Addr) (x16n : Nat) (x16c : Nat) (x20 : Int) (M : AMem) : List Value := [junk, junk, junk, .slice x3 x3n x3c, .pointer (some ⟨x4, 0, none⟩), junk, junk, junk, junk, .pointer (some ⟨x9, 0, none⟩), junk, .pointer x11, .pointer x12, .pointer (some ⟨x13, 0, none⟩), junk, .slice x15 x15n x15c, .slice x16 x16n x16c, junk, junk, junk, .int .i64 x20, junk, junk, junk, junk, junk, junk, junk, junk, junk, junk, junk, junk, junk, junk, junk, junk, junk, junk, junk, junk, junk, junk, junk, junk, junk, junk, junk, junk, junk, junk, junk, junk, junk, junk, junk, junk, junk, junk, junk, junk, junk, junk, junk, junk, junk, junk, junk, junk, junk, junk, junk, junk, junk, junk, junk, junk, junk, junk, junk, junk, junk, junk, junk, junk, junk, junk, junk, junk, junk, junk, junk, junk, junk, junk, junk, junk, junk, junk, junk, junk, junk, junk, junk, junk, junk, junk, junk, junk, junk, junk, junk, junk, junk, junk, junk, junk, junk, junk, junk, junk, junk, junk, junk, junk, junk, junk, junk, junk, junk, junk, junk, junk, junk, junk, junk, junk, junk, junk, junk, junk, junk, junk, junk, junk, junk, junk, junk, junk, junk, junk, junk, junk, junk, junk, junk, junk, junk, junk, junk, junk, junk, junk, junk, junk, junk, junk, junk, junk, junk, junk, junk, junk, junk, junk, junk, junk, junk, junk, junk, junk, junk, junk, junk, junk, junk, junk, junk, junk, junk, junk, junk, junk, junk, junk, junk, junk, junk, junk, junk, junk, junk, junk, junk, junk, junk, junk, junk, junk, junk, junk, junk, junk, junk, junk, junk, junk, junk, junk, junk, junk, junk, junk, junk, junk, junk, junk, junk, junk, junk, junk, junk, junk, junk, junk, junk, junk, junk, junk, junk, junk, junk, junk, junk, junk, junk, junk, junk, junk, junk, junk, junk, junk, junk, junk, junk, junk, junk]
theorem XP4_57 : ∃ P : Rec → (Option Addr) → Nat → Nat → Nat → Nat → (Option Addr) → (Option Addr) → Nat → (Option Addr) → Nat → Nat → (Option Addr) → Nat → Nat → Int → AMem → Res, P = fun (L : Rec) (x3 : Option Addr) (x3n : Nat) (x3c : Nat) (x4 : Nat) (x9 : Nat) (x11 : Option Addr) (x12 : Option Addr) (x13 : Nat) (x15 : Option Addr) (x15n : Nat) (x15c : Nat) (x16 : Option Addr) (x16n : Nat) (x16c : Nat) (x20 : Int) (M : AMem) => L.loop b4_57 (k4_57 L) (s4_57 x3 x3n x3c x4 x9 x11 x12 x13 x15 x15n x15c x16 x16n x16c x20 M) M := ⟨_, rfl⟩
noncomputable def P4_57 : Rec → (Option Addr) → Nat → Nat → Nat → Nat → (Option Addr) → (Option Addr) → Nat → (Option Addr) → Nat → Nat → (Option Addr) → Nat → Nat → Int → AMem → Res := Classical.choose XP4_57
noncomputable def k4_80 (L : Rec) : KT := blockK 3 (seqK (code L (.clear zl11 c4_85) (postK zl11 (loopK L b4_57 (blockK 2 (seqK (code L (.clear zl15 c4_86) (retK [.tmp 8])) (retK [.tmp 8])))))) (postK zl11 (loopK L b4_57 (blockK 2 (seqK (code L (.clear zl15 c4_86) (retK [.tmp 8])) (retK [.tmp 8]))))))
def s4_80 (x3 : Option Addr) (x3n : Nat) (x3c : Nat) (x4 : Nat) (x9 : Nat) (x11 : Option Addr) (x12 : Option Addr) (x13 : Nat) (x15 : Option Addr) (x15n : Nat) (x15c : Nat) (x16 : Option Addr) (x16n : Nat) (x16c : Nat) (x20 : Int) (x170 : Bool) (M : AMem) : List Value := [junk, junk, junk, .slice x3 x3n x3c, .pointer (some ⟨x4, 0, none⟩), junk, junk, junk, junk, .pointer (some ⟨x9, 0, none⟩), junk, .pointer x11, .pointer x12, .pointer (some ⟨x13, 0, none⟩), junk, .slice x15 x15n x15c, .slice x16 x16n x16c, junk, junk, junk, .int .i64 x20, junk, junk, junk, junk, junk, junk, junk, junk, junk, junk, junk, junk, junk, junk, junk, junk, junk, junk, junk, junk, junk, junk, junk, junk, junk, junk, junk, junk, junk, junk, junk, junk, junk, junk, junk, junk, junk, junk, junk, junk, junk, junk, junk, junk, junk, junk, junk, junk, junk, junk, junk, junk, junk, junk, junk, junk, junk, junk, junk, junk, junk, junk, junk, junk, junk, junk, junk, junk, junk, junk, junk, junk, junk, junk, junk, junk, junk, junk, junk, junk, junk, junk, junk, junk, junk, junk, junk, junk, junk, junk, junk, junk, junk, junk, junk, junk, junk, junk, junk, junk, junk, junk, junk, junk, junk, junk, junk, junk, junk, junk, junk, junk, junk, junk, junk, junk, junk, junk, junk, junk, junk, junk, junk, junk, junk, junk, junk, junk, junk, junk, junk, junk, junk, junk, junk, junk, junk, junk, junk, junk, junk, junk, junk, junk, junk, junk, junk, junk, junk, .bool x170, junk, junk, junk, junk, junk, junk, junk, junk, junk, junk, junk, junk, junk, junk, junk, junk, junk, junk, junk, junk, junk, junk, junk, junk, junk, junk, junk, junk, junk, junk, junk, junk, junk, junk, junk, junk, junk, junk, junk, junk, junk, junk, junk, junk, junk, junk, junk, junk, junk, junk, junk, junk, junk, junk, junk, junk, junk, junk, junk, junk, junk, junk, junk, junk, junk, junk, junk, junk, junk, junk, junk, junk, junk, junk, junk, junk, junk, junk, junk, junk, junk, junk, junk, junk, junk, junk, junk]
theorem XP4_80 : ∃ P : Rec → (Option Addr) → Nat → Nat → Nat → Nat → (Option Addr) → (Option Addr) → Nat → (Option Addr) → Nat → Nat → (Option Addr) → Nat → Nat → Int → Bool → AMem → Res, P = fun (L : Rec) (x3 : Option Addr) (x3n : Nat) (x3c : Nat) (x4 : Nat) (x9 : Nat) (x11 : Option Addr) (x12 : Option Addr) (x13 : Nat) (x15 : Option Addr) (x15n : Nat) (x15c : Nat) (x16 : Option Addr) (x16n : Nat) (x16c : Nat) (x20 : Int) (x170 : Bool) (M : AMem) => code L c4_80 (k4_80 L) (s4_80 x3 x3n x3c x4 x9 x11 x12 x13 x15 x15n x15c x16 x16n x16c x20 x170 M) M := ⟨_, rfl⟩
noncomputable def P4_80 : Rec → (Option Addr) → Nat → Nat → Nat → Nat → (Option Addr) → (Option Addr) → Nat → (Option Addr) → Nat → Nat → (Option Addr) → Nat → Nat → Int → Bool → AMem → Res := Classical.choose XP4_80
noncomputable def k4_86 (L : Rec) : KT := retK [.tmp 8]
def s4_86 (x4 : Nat) (x9 : Nat) (x11 : Option Addr) (x12 : Option Addr) (x13 : Nat) (M : AMem) : List Value := [junk, junk, junk, junk, .pointer (some ⟨x4, 0, none⟩), junk, junk, junk, junk, .pointer (some ⟨x9, 0, none⟩), junk, .pointer x11, .pointer x12, .pointer (some ⟨x13, 0, none⟩), junk, junk, junk, junk, junk, junk, junk, junk, junk, junk, junk, junk, junk, junk, junk, junk, junk, junk, junk, junk, junk, junk, junk, junk, junk, junk, junk, junk, junk, junk, junk, junk, junk, junk, junk, junk, junk, junk, junk, junk, junk, junk, junk, junk, junk, junk, junk, junk, junk, junk, junk, junk, junk, junk, junk, junk, junk, junk, junk, junk, junk, junk, junk, junk, junk, junk, junk, junk, junk, junk, junk, junk, junk, junk, junk, junk, junk, junk, junk, junk, junk, junk, junk, junk, junk, junk, junk, junk, junk, junk, junk, junk, junk, junk, junk, junk, junk, junk, junk, junk, junk, junk, junk, junk, junk, junk, junk, junk, junk, junk, junk, junk, junk, junk, junk, junk, junk, junk, junk, junk, junk, junk, junk, junk, junk, junk, junk, junk, junk, junk, junk, junk, junk, junk, junk, junk, junk, junk, junk, junk, junk, junk, junk, junk, junk, junk, junk, junk, junk, junk, junk, junk, junk, junk, junk, junk, junk, junk, junk, junk, junk, junk, junk, junk, junk, junk, junk, junk, junk, junk, junk, junk, junk, junk, junk, junk, junk, junk, junk, junk, junk, junk, junk, junk, junk, junk, junk, junk, junk, junk, junk, junk, junk, junk, junk, junk, junk, junk, junk, junk, junk, junk, junk, junk, junk, junk, junk, junk, junk, junk, junk, junk, junk, junk, junk, junk, junk, junk, junk, junk, junk, junk, junk, junk, junk, junk, junk, junk, junk, junk, junk, junk, junk, junk, junk, junk, junk, junk, junk, junk, junk, junk, junk, junk]
theorem XP4_86 : ∃ P : Rec → Nat → Nat → (Option Addr) → (Option Addr) → Nat → AMem → Res, P = fun (L : Rec) (x4 : Nat) (x9 : Nat) (x11 : Option Addr) (x12 : Option Addr) (x13 : Nat) (M : AMem) => code L c4_86 (k4_86 L) (s4_86 x4 x9 x11 x12 x13 M) M := ⟨_, rfl⟩
noncomputable def P4_86 : Rec → Nat → Nat → (Option Addr) → (Option Addr) → Nat → AMem → Res := Classical.choose XP4_86
noncomputable def k4_85 (L : Rec) : KT := postK zl11 (loopK L b4_57 (blockK 2 (seqK (code L (.clear zl15 c4_86) (retK [.tmp 8])) (retK [.tmp 8]))))
def s4_85 (x3 : Option Addr) (x3n : Nat) (x3c : Nat) (x4 : Nat) (x9 : Nat) (x11 : Option Addr) (x12 : Option Addr) (x13 : Nat) (x15 : Option Addr) (x15n : Nat) (x15c : Nat) (x16 : Option Addr) (x16n : Nat) (x16c : Nat) (x20 : Int) (M : AMem) : List Value := [junk, junk, junk, .slice x3 x3n x3c, .pointer (some ⟨x4, 0, none⟩), junk, junk, junk, junk, .pointer (some ⟨x9, 0, none⟩), junk, .pointer x11, .pointer x12, .pointer (some ⟨x13, 0, none⟩), junk, .slice x15 x15n x15c, .slice x16 x16n x16c, junk, junk, junk, .int .i64 x20, junk, junk, junk, junk, junk, junk, junk, junk, junk, junk, junk, junk, junk, junk, junk, junk, junk, junk, junk, junk, junk, junk, junk, junk, junk, junk, junk, junk, junk, junk, junk, junk, junk, junk, junk, junk, junk, junk, junk, junk, junk, junk, junk, junk, junk, junk, junk, junk, junk, junk, junk, junk, junk, junk, junk, junk, junk, junk, junk, junk, junk, junk, junk, junk, junk, junk, junk, junk, junk, junk, junk, junk, junk, junk, junk, junk, junk, junk, junk, junk, junk, junk, junk, junk, junk, junk, junk, junk, junk, junk, junk, junk, junk, junk, junk, junk, junk, junk, junk, junk, junk, junk, junk, junk, junk, junk, junk, junk, junk, junk, junk, junk, junk, junk, junk, junk, junk, junk, junk, junk, junk, junk, junk, junk, junk, junk, junk, junk, junk, junk, junk, junk, junk, junk, junk, junk, junk, junk, junk, junk, junk, junk, junk, junk, junk, junk, junk, junk, junk, junk, junk, junk, junk, junk, junk, junk, junk, junk, junk, junk, junk, junk, junk, junk, junk, junk, junk, junk, junk, junk, junk, junk, junk, junk, junk, junk, junk, junk, junk, junk, junk, junk, junk, junk, junk, junk, junk, junk, junk, junk, junk, junk, junk, junk, junk, junk, junk, junk, junk, junk, junk, junk, junk, junk, junk, junk, junk, junk, junk, junk, junk, junk, junk, junk, junk, junk, junk, junk, junk, junk, junk, junk, junk, junk, junk, junk, junk, junk, junk, junk, junk, junk, junk, junk, junk, junk, junk]
theorem XP4_85 : ∃ P : Rec → (Option Addr) → Nat → Nat → Nat → Nat → (Option Addr) → (Option Addr) → Nat → (Option Addr) → Nat → Nat → (Option Addr) → Nat → Nat → Int → AMem → Res, P = fun (L : Rec) (x3 : Option Addr) (x3n : Nat) (x3c : Nat) (x4 : Nat) (x9 : Nat) (x11 : Option Addr) (x12 : Option Addr) (x13 : Nat) (x15 : Option Addr) (x15n : Nat) (x15c : Nat) (x16 : Option Addr) (x16n : Nat) (x16c : Nat) (x20 : Int) (M : AMem) => code L c4_85 (k4_85 L) (s4_85 x3 x3n x3c x4 x9 x11 x12 x13 x15 x15n x15c x16 x16n x16c x20 M) M := ⟨_, rfl⟩
noncomputable def P4_85 : Rec → (Option Addr) → Nat → Nat → Nat → Nat → (Option Addr) → (Option Addr) → Nat → (Option Addr) → Nat → Nat → (Option Addr) → Nat → Nat → Int → AMem → Res := Classical.choose XP4_85
noncomputable def k4_96 (L : Rec) : KT := retK [.tmp 8]
def s4_96 (x4 : Nat) (x9 : Nat) (x11 : Option Addr) (x22 : Option Addr) (x22n : Nat) (x22c : Nat) (x23 : Int) (x24 : Option Addr) (x24n : Nat) (x24c : Nat) (x25 : Int) (x27 : Nat) (x29 : Int) (M : AMem) : List Value := [junk, junk, junk, junk, .pointer (some ⟨x4, 0, none⟩), junk, junk, junk, junk, .pointer (some ⟨x9, 0, none⟩), junk, .pointer x11, junk, junk, junk, junk, junk, junk, junk, junk, junk, junk, .slice x22 x22n x22c, .int .i64 x23, .slice x24 x24n x24c, .int .i64 x25, .pointer none, .pointer (some ⟨x27, 0, none⟩), junk, .int .i64 x29, junk, junk, junk, junk, junk, junk, junk, junk, junk, junk, junk, junk, junk, junk, junk, junk, junk, junk, junk, junk, junk, junk, junk, junk, junk, junk, junk, junk, junk, junk, junk, junk, junk, junk, junk, junk, junk, junk, junk, junk, junk, junk, junk, junk, junk, junk, junk, junk, junk, junk, junk, junk, junk, junk, junk, junk, junk, junk, junk, junk, junk, junk, junk, junk, junk, junk, junk, junk, junk, junk, junk, junk, junk, junk, junk, junk, junk, junk, junk, junk, junk, junk, junk, junk, junk, junk, junk, junk, junk, junk, junk, junk, junk, junk, junk, junk, junk, junk, junk, junk, junk, junk, junk, junk, junk, junk, junk, junk, junk, junk, junk, junk, junk, junk, junk, junk, junk, junk, junk, junk, junk, junk, junk, junk, junk, junk, junk, junk, junk, junk, junk, junk, junk, junk, junk, junk, junk, junk, junk, junk, junk, junk, junk, junk, junk, junk, junk, junk, junk, junk, junk, junk, junk, junk, junk, junk, junk, junk, junk, junk, junk, junk, junk, junk, junk, junk, junk, junk, junk, junk, junk, junk, junk, junk, junk, junk, junk, junk, junk, junk, junk, junk, junk, junk, junk, junk, junk, junk, junk, junk, junk, junk, junk, junk, junk, junk, junk, junk, junk, junk, junk, junk, junk, junk, junk, junk, junk, junk, junk, junk, junk, junk, junk, junk, junk, junk, junk, junk, junk, junk, junk, junk, junk, junk, junk, junk, junk, junk]
theorem XP4_96 : ∃ P : Rec → Nat → Nat → (Option Addr) → (Option Addr) → Nat → Nat → Int → (Option Addr) → Nat → Nat → Int → Nat → Int → AMem → Res, P = fun (L : Rec) (x4 : Nat) (x9 : Nat) (x11 : Option Addr) (x22 : Option Addr) (x22n : Nat) (x22c : Nat) (x23 : Int) (x24 : Option Addr) (x24n : Nat) (x24c : Nat) (x25 : Int) (x27 : Nat) (x29 : Int) (M : AMem) => code L c4_96 (k4_96 L) (s4_96 x4 x9 x11 x22 x22n x22c x23 x24 x24n x24c x25 x27 x29 M) M := ⟨_, rfl⟩
noncomputable def P4_96 : Rec → Nat → Nat → (Option Addr) → (Option Addr) → Nat → Nat → Int → (Option Addr) → Nat → Nat → Int → Nat → Int → AMem → Res := Classical.choose XP4_96
noncomputable def k4_101 (L : Rec) : KT := seqK (code L (.seq (.ops o4_107) (.seq (.seq (.ops o4_110) (.cond (.tmp 225) (.ops o4_112) (.skip))) (.clear zl13 c4_114))) (retK [.tmp 8])) (retK [.tmp 8])
def s4_101 (x4 : Nat) (x9 : Nat) (x11 : Option Addr) (x22 : Option Addr) (x22n : Nat) (x22c : Nat) (x23 : Int) (x24 : Option Addr) (x24n : Nat) (x24c : Nat) (x25 : Int) (x223 : Bool) (M : AMem) : List Value := [junk, junk, junk, junk, .pointer (some ⟨x4, 0, none⟩), junk, junk, junk, junk, .pointer (some ⟨x9, 0, none⟩), junk, .pointer x11, junk, junk, junk, junk, junk, junk, junk, junk, junk, junk, .slice x22 x22n x22c, .int .i64 x23, .slice x24 x24n x24c, .int .i64 x25, junk, junk, junk, junk, junk, junk, junk, junk, junk, junk, junk, junk, junk, junk, junk, junk, junk, junk, junk, junk, junk, junk, junk, junk, junk, junk, junk, junk, junk, junk, junk, junk, junk, junk, junk, junk, junk, junk, junk, junk, junk, junk, junk, junk, junk, junk, junk, junk, junk, junk, junk, junk, junk, junk, junk, junk, junk, junk, junk, junk, junk, junk, junk, junk, junk, junk, junk, junk, junk, junk, junk, junk, junk, junk, junk, junk, junk, junk, junk, junk, junk, junk, junk, junk, junk, junk, junk, junk, junk, junk, junk, junk, junk, junk, junk, junk, junk, junk, junk, junk, junk, junk, junk, junk, junk, junk, junk, junk, junk, junk, junk, junk, junk, junk, junk, junk, junk, junk, junk, junk, junk, junk, junk, junk, junk, junk, junk, junk, junk, junk, junk, junk, junk, junk, junk, junk, junk, junk, junk, junk, junk, junk, junk, junk, junk, junk, junk, junk, junk, junk, junk, junk, junk, junk, junk, junk, junk, junk, junk, junk, junk, junk, junk, junk, junk, junk, junk, junk, junk, junk, junk, junk, junk, junk, junk, junk, junk, junk, junk, junk, junk, junk, junk, junk, junk, junk, junk, junk, junk, junk, junk, junk, junk, junk, junk, junk, junk, .bool x223, junk, junk, junk, junk, junk, junk, junk, junk, junk, junk, junk, junk, junk, junk, junk, junk, junk, junk, junk, junk, junk, junk, junk, junk, junk, junk, junk, junk, junk, junk, junk, junk, junk, junk]
theorem XP4_101 : ∃ P : Rec → Nat → Nat → (Option Addr) → (Option Addr) → Nat → Nat → Int → (Option Addr) → Nat → Nat → Int → Bool → AMem → Res, P = fun (L : Rec) (x4 : Nat) (x9 : Nat) (x11 : Option Addr) (x22 : Option Addr) (x22n : Nat) (x22c : Nat) (x23 : Int) (x24 : Option Addr) (x24n : Nat) (x24c : Nat) (x25 : Int) (x223 : Bool) (M : AMem) => code L c4_101 (k4_101 L) (s4_101 x4 x9 x11 x22 x22n x22c x23 x24 x24n x24c x25 x223 M) M := ⟨_, rfl⟩
noncomputable def P4_101 : Rec → Nat → Nat → (Option Addr) → (Option Addr) → Nat → Nat → Int → (Option Addr) → Nat → Nat → Int → Bool → AMem → Res := Classical.choose XP4_101
noncomputable def k4_114 (L : Rec) : KT := retK [.tmp 8]
def s4_114 (x4 : Nat) (x9 : Nat) (x11 : Option Addr) (x22 : Option Addr) (x22n : Nat) (x22c : Nat) (x23 : Int) (x24 : Option Addr) (x24n : Nat) (x24c : Nat) (x25 : Int) (x32 : Int) (M : AMem) : List Value := [junk, junk, junk, junk, .pointer (some ⟨x4, 0, none⟩), junk, junk, junk, junk, .pointer (some ⟨x9, 0, none⟩), junk, .pointer x11, junk, junk, junk, junk, junk, junk, junk, junk, junk, junk, .slice x22 x22n x22c, .int .i64 x23, .slice x24 x24n x24c, .int .i64 x25, junk, junk, junk, junk, junk, junk, .int .i64 x32, junk, junk, junk, junk, junk, junk, junk, junk, junk, junk, junk, junk, junk, junk, junk, junk, junk, junk, junk, junk, junk, junk, junk, junk, junk, junk, junk, junk, junk, junk, junk, junk, junk, junk, junk, junk, junk, junk, junk, junk, junk, junk, junk, junk, junk, junk, junk, junk, junk, junk, junk, junk, junk, junk, junk, junk, junk, junk, junk, junk, junk, junk, junk, junk, junk, junk, junk, junk, junk, junk, junk, junk, junk, junk, junk, junk, junk, junk, junk, junk, junk, junk, junk, junk, junk, junk, junk, junk, junk, junk, junk, junk, junk, junk, junk, junk, junk, junk, junk, junk, junk, junk, junk, junk, junk, junk, junk, junk, junk, junk, junk, junk, junk, junk, junk, junk, junk, junk, junk, junk, junk, junk, junk, junk, junk, junk, junk, junk, junk, junk, junk, junk, junk, junk, junk, junk, junk, junk, junk, junk, junk, junk, junk, junk, junk, junk, junk, junk, junk, junk, junk, junk, junk, junk, junk, junk, junk, junk, junk, junk, junk, junk, junk, junk, junk, junk, junk, junk, junk, junk, junk, junk, junk, junk, junk, junk, junk, junk, junk, junk, junk, junk, junk, junk, junk, junk, junk, junk, junk, junk, junk, junk, junk, junk, junk, junk, junk, junk, junk, junk, junk, junk, junk, junk, junk, junk, junk, junk, junk, junk, junk, junk, junk, junk, junk, junk, junk, junk, junk, junk, junk, junk, junk, junk, junk]
theorem XP4_114 : ∃ P : Rec → Nat → Nat → (Option Addr) → (Option Addr) → Nat → Nat → Int → (Option Addr) → Nat → Nat → Int → Int → AMem → Res, P = fun (L : Rec) (x4 : Nat) (x9 : Nat) (x11 : Option Addr) (x22 : Option Addr) (x22n : Nat) (x22c : Nat) (x23 : Int) (x24 : Option Addr) (x24n : Nat) (x24c : Nat) (x25 : Int) (x32 : Int) (M : AMem) => code L c4_114 (k4_114 L) (s4_114 x4 x9 x11 x22 x22n x22c x23 x24 x24n x24c x25 x32 M) M := ⟨_, rfl⟩
noncomputable def P4_114 : Rec → Nat → Nat → (Option Addr) → (Option Addr) → Nat → Nat → Int → (Option Addr) → Nat → Nat → Int → Int → AMem → Res := Classical.choose XP4_114
noncomputable def k4_74 (L : Rec) : KT := seqK (code L (.seq (.draw [] 0 o4_79 [(9, 7), (17, 15)]) (.clear zl10 c4_80)) (blockK 3 (seqK (code L (.clear zl11 c4_85) (postK zl11 (loopK L b4_57 (blockK 2 (seqK (code L (.clear zl15 c4_86) (retK [.tmp 8])) (retK [.tmp 8])))))) (postK zl11 (loopK L b4_57 (blockK 2 (seqK (code L (.clear zl15 c4_86) (retK [.tmp 8])) (retK [.tmp 8])))))))) (blockK 3 (seqK (code L (.clear zl11 c4_85) (postK zl11 (loopK L b4_57 (blockK 2 (seqK (code L (.clear zl15 c4_86) (retK [.tmp 8])) (retK [.tmp 8])))))) (postK zl11 (loopK L b4_57 (blockK 2 (seqK (code L (.clear zl15 c4_86) (retK [.tmp 8])) (retK [.tmp 8])))))))
def s4_74 (x3 : Option Addr) (x3n : Nat) (x3c : Nat) (x4 : Nat) (x9 : Nat) (x11 : Option Addr) (x12 : Option Addr) (x13 : Nat) (x15 : Option Addr) (x15n : Nat) (x15c : Nat) (x16 : Option Addr) (x16n : Nat) (x16c : Nat) (x20 : Int) (x21 : Int) (M : AMem) : List Value := [junk, junk, junk, .slice x3 x3n x3c, .pointer (some ⟨x4, 0, none⟩), junk, junk, junk, junk, .pointer (some ⟨x9, 0, none⟩), junk, .pointer x11, .pointer x12, .pointer (some ⟨x13, 0, none⟩), junk, .slice x15 x15n x15c, .slice x16 x16n x16c, junk, junk, junk, .int .i64 x20, .int .i64 x21, junk, junk, junk, junk, junk, junk, junk, junk, junk, junk, junk, junk, junk, junk, junk, junk, junk, junk, junk, junk, junk, junk, junk, junk, junk, junk, junk, junk, junk, junk, junk, junk, junk, junk, junk, junk, junk, junk, junk, junk, junk, junk, junk, junk, junk, junk, junk, junk, junk, junk, junk, junk, junk, junk, junk, junk, junk, junk, junk, junk, junk, junk, junk, junk, junk, junk, junk, junk, junk, junk, junk, junk, junk, junk, junk, junk, junk, junk, junk, junk, junk, junk, junk, junk, junk, junk, junk, junk, junk, junk, junk, junk, junk, junk, junk, junk, junk, junk, junk, junk, junk, junk, junk, junk, junk, junk, junk, junk, junk, junk, junk, junk, junk, junk, junk, junk, junk, junk, junk, junk, junk, junk, junk, junk, junk, junk, junk, junk, junk, junk, junk, junk, junk, junk, junk, junk, junk, junk, junk, junk, junk, junk, junk, junk, junk, junk, junk, junk, junk, junk, junk, junk, junk, junk, junk, junk, junk, junk, junk, junk, junk, junk, junk, junk, junk, junk, junk, junk, junk, junk, junk, junk, junk, junk, junk, junk, junk, junk, junk, junk, junk, junk, junk, junk, junk, junk, junk, junk, junk, junk, junk, junk, junk, junk, junk, junk, junk, junk, junk, junk, junk, junk, junk, junk, junk, junk, junk, junk, junk, junk, junk, junk, junk, junk, junk, junk, junk, junk, junk, junk, junk, junk, junk, junk, junk, junk, junk, junk, junk, junk, junk, junk, junk, junk, junk, junk]
theorem XP4_74 : ∃ P : Rec → (Option Addr) → Nat → Nat → Nat → Nat → (Option Addr) → (Option Addr) → Nat → (Option Addr) → Nat → Nat → (Option Addr) → Nat → Nat → Int → Int → AMem → Res, P = fun (L : Rec) (x3 : Option Addr) (x3n : Nat) (x3c : Nat) (x4 : Nat) (x9 : Nat) (x11 : Option Addr) (x12 : Option Addr) (x13 : Nat) (x15 : Option Addr) (x15n : Nat) (x15c : Nat) (x16 : Option Addr) (x16n : Nat) (x16c : Nat) (x20 : Int) (x21 : Int) (M : AMem) => code L c4_74 (k4_74 L) (s4_74 x3 x3n x3c x4 x9 x11 x12 x13 x15 x15n x15c x16 x16n x16c x20 x21 M) M := ⟨_, rfl⟩
noncomputable def P4_74 : Rec → (Option Addr) → Nat → Nat → Nat → Nat → (Option Addr) → (Option Addr) → Nat → (Option Addr) → Nat → Nat → (Option Addr) → Nat → Nat → Int → Int → AMem → Res := Classical.choose XP4_74
theorem QP4_5_eq (L : Rec) (c4_18 : ACode) (P4_5 : Rec → Int → (Option Addr) → Nat → Nat → (Option Addr) → Nat → Nat → Nat → Bool → AMem → Res) (hP4_5 : Eq P4_5 fun L x1 x2 x2n x2c x3 x3n x3c x4 x54 M => code L (.cond (.tmp 54) (.seq (.ops o4_7) (.ret)) (.skip)) (seqK (code L (.seq (.ops o4_11) (.seq (.ops o4_13) (.seq (.ops o4_15) (.seq (.ops o4_17) (.clear zl18 c4_18))))) (retK [.tmp 8])) (retK [.tmp 8])) (s4_5 x1 x2 x2n x2c x3 x3n x3c x4 x54 M) M) (P4_18 : Rec → (Option Addr) → Nat → Nat → (Option Addr) → Nat → Nat → Nat → Nat → (Option Addr) → (Option Addr) → Nat → Bool → AMem → Res) (hP4_18 : Eq P4_18 fun L x2 x2n x2c x3 x3n x3c x4 x9 x11 x12 x13 x14 M => code L c4_18 (retK [.tmp 8]) (s4_18 x2 x2n x2c x3 x3n x3c x4 x9 x11 x12 x13 x14 M) M) (x1 : Int) (x2 : Option Addr) (x2n : Nat) (x2c : Nat) (x3 : Option Addr) (x3n : Nat) (x3c : Nat) (x4 : Nat) (x54 : Bool) (M : AMem) : P4_5 L x1 x2 x2n x2c x3 x3n x3c x4 x54 M =
  (if x54 = true
    then (Option.bind (L.call 8 [] []) fun r_1 =>
      (Option.bind (boolOf? (some r_1.1)) fun q_2 =>
      some (.bool q_2, M)))
    else (Option.bind (intOf? .i64 (AMem.ld M x4 0)) fun x_3 =>
      (Option.bind (intOf? .i64 (AMem.ld M x4 1)) fun x_4 =>
      (Option.bind (L.call 10 [.agg #[.int .i64 x_3, .int .i64 x_4]] []) fun r_5 =>
      (Option.bind (intOf? .i64 (some r_5.1)) fun x_6 =>
      (Option.bind (L.call 23 [.int .i64 x_6] M) fun r_7 =>
      (Option.bind (tupOf? 2 r_7.1) fun cs_8 =>
      (Option.bind (cs_8[0]?) fun u_9 =>
      (Option.bind (aggOf? 3 u_9) fun cs_10 =>
      (Option.bind (sliceOf? (cs_10[0]?)) fun s_11 =>
      (Option.bind (intOf? .i64 (cs_10[1]?)) fun x_12 =>
      (Option.bind (intOf? .i64 (cs_10[2]?)) fun x_13 =>
      (Option.bind (cs_8[1]?) fun u_14 =>
      (Option.bind (boolOf? (some u_14)) fun q_15 =>
      (Option.bind (AMem.wr (r_7.2 ++ [AObj.cells [.slice none 0 0, .int .i64 0, .int .i64 0] ⟨false, 0⟩]) (List.length r_7.2) 0 [.slice s_11.1 s_11.2.1 s_11.2.2, .int .i64 x_12, .int .i64 x_13]) fun M_16 =>
      (Option.bind (intOf? .i64 (AMem.ld M_16 x4 0)) fun x_17 =>
      (Option.bind (intOf? .i64 (AMem.ld M_16 x4 1)) fun x_18 =>
      (Option.bind (L.call 10 [.agg #[.int .i64 x_17, .int .i64 x_18]] []) fun r_19 =>
      (Option.bind (intOf? .i64 (some r_19.1)) fun x_20 =>
      (Option.bind (L.call 9 [.int .i64 x_20] M_16) fun r_21 =>
      (Option.bind (ptrOf? (some r_21.1)) fun p_22 =>
      (Option.bind (intOf? .i64 (AMem.ld r_21.2 x4 0)) fun x_23 =>
      (Option.bind (intOf? .i64 (AMem.ld r_21.2 x4 1)) fun x_24 =>
      (Option.bind (L.call 12 [.agg #[.int .i64 x_23, .int .i64 x_24]] []) fun r_25 =>
      (Option.bind (aggOf? 2 r_25.1) fun cs_26 =>
      (Option.bind (intOf? .i64 (cs_26[0]?)) fun x_27 =>
      (Option.bind (intOf? .i64 (cs_26[1]?)) fun x_28 =>
      (Option.bind (L.call 11 [.agg #[.int .i64 x_27, .int .i64 x_28], .int .i64 x1] r_21.2) fun r_29 =>
      (Option.bind (ptrOf? (some r_29.1)) fun p_30 =>
      (Option.bind (intOf? .i64 (AMem.ld r_29.2 x4 0)) fun x_31 =>
      (Option.bind (intOf? .i64 (AMem.ld r_29.2 x4 1)) fun x_32 =>
      (Option.bind (L.call 24 [.agg #[.int .i64 x_31, .int .i64 x_32], .int .i64 x1] r_29.2) fun r_33 =>
      (Option.bind (tupOf? 2 r_33.1) fun cs_34 =>
      (Option.bind (cs_34[0]?) fun u_35 =>
      (Option.bind (aggOf? 6 u_35) fun cs_36 =>
      (Option.bind (intOf? .i64 (cs_36[0]?)) fun x_37 =>
      (Option.bind (intOf? .i64 (cs_36[1]?)) fun x_38 =>
      (Option.bind (intOf? .i64 (cs_36[2]?)) fun x_39 =>
      (Option.bind (intOf? .i64 (cs_36[3]?)) fun x_40 =>
      (Option.bind (sliceOf? (cs_36[4]?)) fun s_41 =>
      (Option.bind (intOf? .i64 (cs_36[5]?)) fun x_42 =>
      (Option.bind (cs_34[1]?) fun u_43 =>
      (Option.bind (boolOf? (some u_43)) fun q_44 =>
      (Option.bind (AMem.wr (r_33.2 ++ [AObj.cells [.int .i64 0, .int .i64 0, .int .i64 0, .int .i64 0, .slice none 0 0, .int .i64 0] ⟨false, 0⟩]) (List.length r_33.2) 0 [.int .i64 x_37, .int .i64 x_38, .int .i64 x_39, .int .i64 x_40, .slice s_41.1 s_41.2.1 s_41.2.2, .int .i64 x_42]) fun M_45 =>
      P4_18 L x2 x2n x2c x3 x3n x3c x4 (List.length r_7.2) p_22 p_30 (List.length r_33.2) q_44 M_45)))))))))))))))))))))))))))))))))))))))))))) := by
  subst hP4_5; subst hP4_18; kernel_rfl
theorem P4_5_eq (L : Rec) (x1 : Int) (x2 : Option Addr) (x2n : Nat) (x2c : Nat) (x3 : Option Addr) (x3n : Nat) (x3c : Nat) (x4 : Nat) (x54 : Bool) (M : AMem) : P4_5 L x1 x2 x2n x2c x3 x3n x3c x4 x54 M =
  (if x54 = true
    then (Option.bind (L.call 8 [] []) fun r_1 =>
      (Option.bind (boolOf? (some r_1.1)) fun q_2 =>
      some (.bool q_2, M)))
    else (Option.bind (intOf? .i64 (AMem.ld M x4 0)) fun x_3 =>
      (Option.bind (intOf? .i64 (AMem.ld M x4 1)) fun x_4 =>
      (Option.bind (L.call 10 [.agg #[.int .i64 x_3, .int .i64 x_4]] []) fun r_5 =>
      (Option.bind (intOf? .i64 (some r_5.1)) fun x_6 =>
      (Option.bind (L.call 23 [.int .i64 x_6] M) fun r_7 =>
      (Option.bind (tupOf? 2 r_7.1) fun cs_8 =>
      (Option.bind (cs_8[0]?) fun u_9 =>
      (Option.bind (aggOf? 3 u_9) fun cs_10 =>
      (Option.bind (sliceOf? (cs_10[0]?)) fun s_11 =>
      (Option.bind (intOf? .i64 (cs_10[1]?)) fun x_12 =>
      (Option.bind (intOf? .i64 (cs_10[2]?)) fun x_13 =>
      (Option.bind (cs_8[1]?) fun u_14 =>
      (Option.bind (boolOf? (some u_14)) fun q_15 =>
      (Option.bind (AMem.wr (r_7.2 ++ [AObj.cells [.slice none 0 0, .int .i64 0, .int .i64 0] ⟨false, 0⟩]) (List.length r_7.2) 0 [.slice s_11.1 s_11.2.1 s_11.2.2, .int .i64 x_12, .int .i64 x_13]) fun M_16 =>
      (Option.bind (intOf? .i64 (AMem.ld M_16 x4 0)) fun x_17 =>
      (Option.bind (intOf? .i64 (AMem.ld M_16 x4 1)) fun x_18 =>
      (Option.bind (L.call 10 [.agg #[.int .i64 x_17, .int .i64 x_18]] []) fun r_19 =>
      (Option.bind (intOf? .i64 (some r_19.1)) fun x_20 =>
      (Option.bind (L.call 9 [.int .i64 x_20] M_16) fun r_21 =>
      (Option.bind (ptrOf? (some r_21.1)) fun p_22 =>
      (Option.bind (intOf? .i64 (AMem.ld r_21.2 x4 0)) fun x_23 =>
      (Option.bind (intOf? .i64 (AMem.ld r_21.2 x4 1)) fun x_24 =>
      (Option.bind (L.call 12 [.agg #[.int .i64 x_23, .int .i64 x_24]] []) fun r_25 =>
      (Option.bind (aggOf? 2 r_25.1) fun cs_26 =>
      (Option.bind (intOf? .i64 (cs_26[0]?)) fun x_27 =>
      (Option.bind (intOf? .i64 (cs_26[1]?)) fun x_28 =>
      (Option.bind (L.call 11 [.agg #[.int .i64 x_27, .int .i64 x_28], .int .i64 x1] r_21.2) fun r_29 =>
      (Option.bind (ptrOf? (some r_29.1)) fun p_30 =>
      (Option.bind (intOf? .i64 (AMem.ld r_29.2 x4 0)) fun x_31 =>
      (Option.bind (intOf? .i64 (AMem.ld r_29.2 x4 1)) fun x_32 =>
      (Option.bind (L.call 24 [.agg #[.int .i64 x_31, .int .i64 x_32], .int .i64 x1] r_29.2) fun r_33 =>
      (Option.bind (tupOf? 2 r_33.1) fun cs_34 =>
      (Option.bind (cs_34[0]?) fun u_35 =>
      (Option.bind (aggOf? 6 u_35) fun cs_36 =>
      (Option.bind (intOf? .i64 (cs_36[0]?)) fun x_37 =>
      (Option.bind (intOf? .i64 (cs_36[1]?)) fun x_38 =>
      (Option.bind (intOf? .i64 (cs_36[2]?)) fun x_39 =>
      (Option.bind (intOf? .i64 (cs_36[3]?)) fun x_40 =>
      (Option.bind (sliceOf? (cs_36[4]?)) fun s_41 =>
      (Option.bind (intOf? .i64 (cs_36[5]?)) fun x_42 =>
      (Option.bind (cs_34[1]?) fun u_43 =>
      (Option.bind (boolOf? (some u_43)) fun q_44 =>
      (Option.bind (AMem.wr (r_33.2 ++ [AObj.cells [.int .i64 0, .int .i64 0, .int .i64 0, .int .i64 0, .slice none 0 0, .int .i64 0] ⟨false, 0⟩]) (List.length r_33.2) 0 [.int .i64 x_37, .int .i64 x_38, .int .i64 x_39, .int .i64 x_40, .slice s_41.1 s_41.2.1 s_41.2.2, .int .i64 x_42]) fun M_45 =>
      P4_18 L x2 x2n x2c x3 x3n x3c x4 (List.length r_7.2) p_22 p_30 (List.length r_33.2) q_44 M_45)))))))))))))))))))))))))))))))))))))))))))) := QP4_5_eq L c4_18 P4_5 (Classical.choose_spec XP4_5) P4_18 (Classical.choose_spec XP4_18) x1 x2 x2n x2c x3 x3n x3c x4 x54 M
theorem QP4_18_eq (L : Rec) (b4_34 c4_53 : ACode) (P4_18 : Rec → (Option Addr) → Nat → Nat → (Option Addr) → Nat → Nat → Nat → Nat → (Option Addr) → (Option Addr) → Nat → Bool → AMem → Res) (hP4_18 : Eq P4_18 fun L x2 x2n x2c x3 x3n x3c x4 x9 x11 x12 x13 x14 M => code L (.seq (.seq (.ops o4_20) (.cond (.tmp 78) (.seq (.ops o4_23) (.ret)) (.skip))) (.seq (.ops o4_27) (.seq (.ops o4_29) (.seq (.seq (.ops o4_32) (.block 0 (.clear zl8 (.loop b4_34)))) (.clear zl16 c4_53))))) (retK [.tmp 8]) (s4_18 x2 x2n x2c x3 x3n x3c x4 x9 x11 x12 x13 x14 M) M) (P4_34 : Rec → (Option Addr) → Nat → Nat → (Option Addr) → Nat → Nat → Nat → Nat → (Option Addr) → (Option Addr) → Nat → (Option Addr) → Nat → Nat → (Option Addr) → Nat → Nat → Int → AMem → Res) (hP4_34 : Eq P4_34 fun L x2 x2n x2c x3 x3n x3c x4 x9 x11 x12 x13 x15 x15n x15c x16 x16n x16c x17 M => L.loop b4_34 (blockK 0 (seqK (code L (.clear zl16 c4_53) (retK [.tmp 8])) (retK [.tmp 8]))) (s4_34 x2 x2n x2c x3 x3n x3c x4 x9 x11 x12 x13 x15 x15n x15c x16 x16n x16c x17 M) M) (x2 : Option Addr) (x2n : Nat) (x2c : Nat) (x3 : Option Addr) (x3n : Nat) (x3c : Nat) (x4 : Nat) (x9 : Nat) (x11 : Option Addr) (x12 : Option Addr) (x13 : Nat) (x14 : Bool) (M : AMem) : P4_18 L x2 x2n x2c x3 x3n x3c x4 x9 x11 x12 x13 x14 M =
  (if (!((!(Option.isNone x12)) == x14)) = true
    then some (.bool false, M)
    else P4_34 L x2 x2n x2c x3 x3n x3c x4 x9 x11 x12 x13 none 0 0 none 0 0 0 M) := by
  subst hP4_18; subst hP4_34; kernel_rfl
theorem P4_18_eq (L : Rec) (x2 : Option Addr) (x2n : Nat) (x2c : Nat) (x3 : Option Addr) (x3n : Nat) (x3c : Nat) (x4 : Nat) (x9 : Nat) (x11 : Option Addr) (x12 : Option Addr) (x13 : Nat) (x14 : Bool) (M : AMem) : P4_18 L x2 x2n x2c x3 x3n x3c x4 x9 x11 x12 x13 x14 M =
  (if (!((!(Option.isNone x12)) == x14)) = true
    then some (.bool false, M)
    else P4_34 L x2 x2n x2c x3 x3n x3c x4 x9 x11 x12 x13 none 0 0 none 0 0 0 M) := QP4_18_eq L b4_34 c4_53 P4_18 (Classical.choose_spec XP4_18) P4_34 (Classical.choose_spec XP4_34) x2 x2n x2c x3 x3n x3c x4 x9 x11 x12 x13 x14 M
theorem QP4_34_eq (L : Rec) (b4_34 c4_45 c4_52 c4_53 : ACode) (hb : ∀ K t A, L.loop b4_34 K t A = code L (.post (.seq (.seq (.ops o4_37) (.cond (.tmp 82) (.skip) (.exit 0))) (.seq (.block 1 (.seq (.draw f4_44 0 o4_44 [(15, 11)]) (.clear zl7 c4_45))) (.clear zl8 c4_52))) zl8) (loopK L b4_34 K) t A) (P4_34 : Rec → (Option Addr) → Nat → Nat → (Option Addr) → Nat → Nat → Nat → Nat → (Option Addr) → (Option Addr) → Nat → (Option Addr) → Nat → Nat → (Option Addr) → Nat → Nat → Int → AMem → Res) (hP4_34 : Eq P4_34 fun L x2 x2n x2c x3 x3n x3c x4 x9 x11 x12 x13 x15 x15n x15c x16 x16n x16c x17 M => L.loop b4_34 (blockK 0 (seqK (code L (.clear zl16 c4_53) (retK [.tmp 8])) (retK [.tmp 8]))) (s4_34 x2 x2n x2c x3 x3n x3c x4 x9 x11 x12 x13 x15 x15n x15c x16 x16n x16c x17 M) M) (P4_45 : Rec → (Option Addr) → Nat → Nat → (Option Addr) → Nat → Nat → Nat → Nat → (Option Addr) → (Option Addr) → Nat → (Option Addr) → Nat → Nat → (Option Addr) → Nat → Nat → Int → Nat → Bool → AMem → Res) (hP4_45 : Eq P4_45 fun L x2 x2n x2c x3 x3n x3c x4 x9 x11 x12 x13 x15 x15n x15c x16 x16n x16c x17 x18 x19 M => code L c4_45 (blockK 1 (seqK (code L (.clear zl8 c4_52) (postK zl8 (loopK L b4_34 (blockK 0 (seqK (code L (.clear zl16 c4_53) (retK [.tmp 8])) (retK [.tmp 8])))))) (postK zl8 (loopK L b4_34 (blockK 0 (seqK (code L (.clear zl16 c4_53) (retK [.tmp 8])) (retK [.tmp 8]))))))) (s4_45 x2 x2n x2c x3 x3n x3c x4 x9 x11 x12 x13 x15 x15n x15c x16 x16n x16c x17 x18 x19 M) M) (P4_53 : Rec → (Option Addr) → Nat → Nat → Nat → Nat → (Option Addr) → (Option Addr) → Nat → (Option Addr) → Nat → Nat → (Option Addr) → Nat → Nat → AMem → Res) (hP4_53 : Eq P4_53 fun L x3 x3n x3c x4 x9 x11 x12 x13 x15 x15n x15c x16 x16n x16c M => code L c4_53 (retK [.tmp 8]) (s4_53 x3 x3n x3c x4 x9 x11 x12 x13 x15 x15n x15c x16 x16n x16c M) M) (x2 : Option Addr) (x2n : Nat) (x2c : Nat) (x3 : Option Addr) (x3n : Nat) (x3c : Nat) (x4 : Nat) (x9 : Nat) (x11 : Option Addr) (x12 : Option Addr) (x13 : Nat) (x15 : Option Addr) (x15n : Nat) (x15c : Nat) (x16 : Option Addr) (x16n : Nat) (x16c : Nat) (x17 : Int) (M : AMem) : P4_34 L x2 x2n x2c x3 x3n x3c x4 x9 x11 x12 x13 x15 x15n x15c x16 x16n x16c x17 M =
  (if (decide (x17 < (Int.ofNat x2n))) = true
    then (Option.bind (intOf? .i64 (AMem.ld (M ++ [AObj.cells [.int .i64 0, .slice none 0 0, .int .i64 0, .bool false, .int .u64 0, .int .i64 0] ⟨false, 0⟩]) x4 0)) fun x_1 =>
      (Option.bind (intOf? .i64 (AMem.ld (M ++ [AObj.cells [.int .i64 0, .slice none 0 0, .int .i64 0, .bool false, .int .u64 0, .int .i64 0] ⟨false, 0⟩]) x4 1)) fun x_2 =>
      (match x2 with
      | some a_3 => (if (0 : Int) ≤ x17 ∧ x17 < (Int.ofNat x2n)
        then (Option.bind (intOf? .i64 (AMem.ld (M ++ [AObj.cells [.int .i64 0, .slice none 0 0, .int .i64 0, .bool false, .int .u64 0, .int .i64 0] ⟨false, 0⟩]) a_3.block (a_3.off + ((Int.toNat x17) * 2)))) fun x_4 =>
          (match x2 with
          | some a_5 => (if (0 : Int) ≤ x17 ∧ x17 < (Int.ofNat x2n)
            then (Option.bind (sliceOf? (AMem.ld (M ++ [AObj.cells [.int .i64 0, .slice none 0 0, .int .i64 0, .bool false, .int .u64 0, .int .i64 0] ⟨false, 0⟩]) a_5.block ((a_5.off + ((Int.toNat x17) * 2)) + 1))) fun s_6 =>
              (Option.bind (L.call 25 [.agg #[.int .i64 x_1, .int .i64 x_2], .int .i64 x_4, .slice s_6.1 s_6.2.1 s_6.2.2] (M ++ [AObj.cells [.int .i64 0, .slice none 0 0, .int .i64 0, .bool false, .int .u64 0, .int .i64 0] ⟨false, 0⟩])) fun r_7 =>
              (Option.bind (tupOf? 2 r_7.1) fun cs_8 =>
              (Option.bind (cs_8[0]?) fun u_9 =>
              (Option.bind (aggOf? 6 u_9) fun cs_10 =>
              (Option.bind (intOf? .i64 (cs_10[0]?)) fun x_11 =>
              (Option.bind (sliceOf? (cs_10[1]?)) fun s_12 =>
              (Option.bind (intOf? .i64 (cs_10[2]?)) fun x_13 =>
              (Option.bind (boolOf? (cs_10[3]?)) fun q_14 =>
              (Option.bind (intOf? .u64 (cs_10[4]?)) fun x_15 =>
              (Option.bind (intOf? .i64 (cs_10[5]?)) fun x_16 =>
              (Option.bind (cs_8[1]?) fun u_17 =>
              (Option.bind (boolOf? (some u_17)) fun q_18 =>
              (Option.bind (AMem.wr r_7.2 (List.length M) 0 [.int .i64 x_11, .slice s_12.1 s_12.2.1 s_12.2.2, .int .i64 x_13, .bool q_14, .int .u64 x_15, .int .i64 x_16]) fun M_19 =>
              (if chkOk [(15, 11)] [(15, (List.length M))] [(11, ((M ++ [AObj.cells [.int .i64 0, .slice none 0 0, .int .i64 0, .bool false, .int .u64 0, .int .i64 0] ⟨false, 0⟩]), r_7.2))] = true
              then P4_45 L x2 x2n x2c x3 x3n x3c x4 x9 x11 x12 x13 x15 x15n x15c x16 x16n x16c x17 (List.length M) q_18 M_19
              else none)))))))))))))))
            else none)
          | none => none))
        else none)
      | none => none)))
    else P4_53 L x3 x3n x3c x4 x9 x11 x12 x13 x15 x15n x15c x16 x16n x16c M) := by
  subst hP4_34; subst hP4_45; subst hP4_53; exact (hb (blockK 0 (seqK (code L (.clear zl16 c4_53) (retK [.tmp 8])) (retK [.tmp 8]))) (s4_34 x2 x2n x2c x3 x3n x3c x4 x9 x11 x12 x13 x15 x15n x15c x16 x16n x16c x17 M) M).trans (by kernel_rfl)
theorem P4_34_eq (L : Rec) (hL : ∀ b K t A, L.loop b K t A = code L b (loopK L b K) t A) (x2 : Option Addr) (x2n : Nat) (x2c : Nat) (x3 : Option Addr) (x3n : Nat) (x3c : Nat) (x4 : Nat) (x9 : Nat) (x11 : Option Addr) (x12 : Option Addr) (x13 : Nat) (x15 : Option Addr) (x15n : Nat) (x15c : Nat) (x16 : Option Addr) (x16n : Nat) (x16c : Nat) (x17 : Int) (M : AMem) : P4_34 L x2 x2n x2c x3 x3n x3c x4 x9 x11 x12 x13 x15 x15n x15c x16 x16n x16c x17 M =
  (if (decide (x17 < (Int.ofNat x2n))) = true
    then (Option.bind (intOf? .i64 (AMem.ld (M ++ [AObj.cells [.int .i64 0, .slice none 0 0, .int .i64 0, .bool false, .int .u64 0, .int .i64 0] ⟨false, 0⟩]) x4 0)) fun x_1 =>
      (Option.bind (intOf? .i64 (AMem.ld (M ++ [AObj.cells [.int .i64 0, .slice none 0 0, .int .i64 0, .bool false, .int .u64 0, .int .i64 0] ⟨false, 0⟩]) x4 1)) fun x_2 =>
      (match x2 with
      | some a_3 => (if (0 : Int) ≤ x17 ∧ x17 < (Int.ofNat x2n)
        then (Option.bind (intOf? .i64 (AMem.ld (M ++ [AObj.cells [.int .i64 0, .slice none 0 0, .int .i64 0, .bool false, .int .u64 0, .int .i64 0] ⟨false, 0⟩]) a_3.block (a_3.off + ((Int.toNat x17) * 2)))) fun x_4 =>
          (match x2 with
          | some a_5 => (if (0 : Int) ≤ x17 ∧ x17 < (Int.ofNat x2n)
            then (Option.bind (sliceOf? (AMem.ld (M ++ [AObj.cells [.int .i64 0, .slice none 0 0, .int .i64 0, .bool false, .int .u64 0, .int .i64 0] ⟨false, 0⟩]) a_5.block ((a_5.off + ((Int.toNat x17) * 2)) + 1))) fun s_6 =>
              (Option.bind (L.call 25 [.agg #[.int .i64 x_1, .int .i64 x_2], .int .i64 x_4, .slice s_6.1 s_6.2.1 s_6.2.2] (M ++ [AObj.cells [.int .i64 0, .slice none 0 0, .int .i64 0, .bool false, .int .u64 0, .int .i64 0] ⟨false, 0⟩])) fun r_7 =>
              (Option.bind (tupOf? 2 r_7.1) fun cs_8 =>
              (Option.bind (cs_8[0]?) fun u_9 =>
              (Option.bind (aggOf? 6 u_9) fun cs_10 =>
              (Option.bind (intOf? .i64 (cs_10[0]?)) fun x_11 =>
              (Option.bind (sliceOf? (cs_10[1]?)) fun s_12 =>
              (Option.bind (intOf? .i64 (cs_10[2]?)) fun x_13 =>
              (Option.bind (boolOf? (cs_10[3]?)) fun q_14 =>
              (Option.bind (intOf? .u64 (cs_10[4]?)) fun x_15 =>
              (Option.bind (intOf? .i64 (cs_10[5]?)) fun x_16 =>
              (Option.bind (cs_8[1]?) fun u_17 =>
              (Option.bind (boolOf? (some u_17)) fun q_18 =>
              (Option.bind (AMem.wr r_7.2 (List.length M) 0 [.int .i64 x_11, .slice s_12.1 s_12.2.1 s_12.2.2, .int .i64 x_13, .bool q_14, .int .u64 x_15, .int .i64 x_16]) fun M_19 =>
              (if chkOk [(15, 11)] [(15, (List.length M))] [(11, ((M ++ [AObj.cells [.int .i64 0, .slice none 0 0, .int .i64 0, .bool false, .int .u64 0, .int .i64 0] ⟨false, 0⟩]), r_7.2))] = true
              then P4_45 L x2 x2n x2c x3 x3n x3c x4 x9 x11 x12 x13 x15 x15n x15c x16 x16n x16c x17 (List.length M) q_18 M_19
              else none)))))))))))))))
            else none)
          | none => none))
        else none)
      | none => none)))
    else P4_53 L x3 x3n x3c x4 x9 x11 x12 x13 x15 x15n x15c x16 x16n x16c M) := QP4_34_eq L b4_34 c4_45 c4_52 c4_53 (hL b4_34) P4_34 (Classical.choose_spec XP4_34) P4_45 (Classical.choose_spec XP4_45) P4_53 (Classical.choose_spec XP4_53) x2 x2n x2c x3 x3n x3c x4 x9 x11 x12 x13 x15 x15n x15c x16 x16n x16c x17 M
theorem QP4_45_eq (L : Rec) (b4_34 c4_52 c4_53 : ACode) (P4_45 : Rec → (Option Addr) → Nat → Nat → (Option Addr) → Nat → Nat → Nat → Nat → (Option Addr) → (Option Addr) → Nat → (Option Addr) → Nat → Nat → (Option Addr) → Nat → Nat → Int → Nat → Bool → AMem → Res) (hP4_45 : Eq P4_45 fun L x2 x2n x2c x3 x3n x3c x4 x9 x11 x12 x13 x15 x15n x15c x16 x16n x16c x17 x18 x19 M => code L (.seq (.ops o4_46) (.cond (.tmp 100) (.seq (.ops o4_49) (.draw [] 0 o4_50 [(7, 13)])) (.skip))) (blockK 1 (seqK (code L (.clear zl8 c4_52) (postK zl8 (loopK L b4_34 (blockK 0 (seqK (code L (.clear zl16 c4_53) (retK [.tmp 8])) (retK [.tmp 8])))))) (postK zl8 (loopK L b4_34 (blockK 0 (seqK (code L (.clear zl16 c4_53) (retK [.tmp 8])) (retK [.tmp 8]))))))) (s4_45 x2 x2n x2c x3 x3n x3c x4 x9 x11 x12 x13 x15 x15n x15c x16 x16n x16c x17 x18 x19 M) M) (P4_52 : Rec → (Option Addr) → Nat → Nat → (Option Addr) → Nat → Nat → Nat → Nat → (Option Addr) → (Option Addr) → Nat → (Option Addr) → Nat → Nat → (Option Addr) → Nat → Nat → Int → AMem → Res) (hP4_52 : Eq P4_52 fun L x2 x2n x2c x3 x3n x3c x4 x9 x11 x12 x13 x15 x15n x15c x16 x16n x16c x17 M => code L c4_52 (postK zl8 (loopK L b4_34 (blockK 0 (seqK (code L (.clear zl16 c4_53) (retK [.tmp 8])) (retK [.tmp 8]))))) (s4_52 x2 x2n x2c x3 x3n x3c x4 x9 x11 x12 x13 x15 x15n x15c x16 x16n x16c x17 M) M) (x2 : Option Addr) (x2n : Nat) (x2c : Nat) (x3 : Option Addr) (x3n : Nat) (x3c : Nat) (x4 : Nat) (x9 : Nat) (x11 : Option Addr) (x12 : Option Addr) (x13 : Nat) (x15 : Option Addr) (x15n : Nat) (x15c : Nat) (x16 : Option Addr) (x16n : Nat) (x16c : Nat) (x17 : Int) (x18 : Nat) (x19 : Bool) (M : AMem) : P4_45 L x2 x2n x2c x3 x3n x3c x4 x9 x11 x12 x13 x15 x15n x15c x16 x16n x16c x17 x18 x19 M =
  (if x19 = true
    then (Option.bind (intOf? .i64 (AMem.ld M x18 0)) fun x_1 =>
      (Option.bind (sliceOf? (AMem.ld M x18 1)) fun s_2 =>
      (Option.bind (intOf? .i64 (AMem.ld M x18 2)) fun x_3 =>
      (Option.bind (boolOf? (AMem.ld M x18 3)) fun q_4 =>
      (Option.bind (intOf? .u64 (AMem.ld M x18 4)) fun x_5 =>
      (Option.bind (intOf? .i64 (AMem.ld M x18 5)) fun x_6 =>
      (Option.bind (rowOf (M ++ [AObj.cells [.int .i64 x_1, .slice s_2.1 s_2.2.1 s_2.2.2, .int .i64 x_3, .bool q_4, .int .u64 x_5, .int .i64 x_6] ⟨false, 0⟩]) 6 (.slice (some ⟨(List.length M), 0, none⟩) 1 6)) fun row_7 =>
      (appendK 6 64 x15 x15n x15c 1 row_7 (M ++ [AObj.cells [.int .i64 x_1, .slice s_2.1 s_2.2.1 s_2.2.2, .int .i64 x_3, .bool q_4, .int .u64 x_5, .int .i64 x_6] ⟨false, 0⟩]) fun p_8 n_9 c_10 M_11 =>
      (Option.bind (intOf? .i64 (AMem.ld M_11 x4 0)) fun x_12 =>
      (Option.bind (intOf? .i64 (AMem.ld M_11 x4 1)) fun x_13 =>
      (Option.bind (L.call 12 [.agg #[.int .i64 x_12, .int .i64 x_13]] []) fun r_14 =>
      (Option.bind (aggOf? 2 r_14.1) fun cs_15 =>
      (Option.bind (intOf? .i64 (cs_15[0]?)) fun x_16 =>
      (Option.bind (intOf? .i64 (cs_15[1]?)) fun x_17 =>
      (match x2 with
      | some a_18 => (if (0 : Int) ≤ x17 ∧ x17 < (Int.ofNat x2n)
        then (Option.bind (intOf? .i64 (AMem.ld M_11 a_18.block (a_18.off + ((Int.toNat x17) * 2)))) fun x_19 =>
          (match x2 with
          | some a_20 => (if (0 : Int) ≤ x17 ∧ x17 < (Int.ofNat x2n)
            then (Option.bind (sliceOf? (AMem.ld M_11 a_20.block ((a_20.off + ((Int.toNat x17) * 2)) + 1))) fun s_21 =>
              (Option.bind (L.call 14 [.slice s_21.1 s_21.2.1 s_21.2.2] M_11) fun r_22 =>
              (Option.bind (sliceOf? (some r_22.1)) fun s_23 =>
              (Option.bind (L.call 13 [.agg #[.int .i64 x_16, .int .i64 x_17], .int .i64 x_19, .slice s_23.1 s_23.2.1 s_23.2.2] r_22.2) fun r_24 =>
              (Option.bind (ptrOf? (some r_24.1)) fun p_25 =>
              (Option.bind (rowOf (r_24.2 ++ [AObj.cells [.pointer p_25] ⟨false, 0⟩]) 1 (.slice (some ⟨(List.length r_24.2), 0, none⟩) 1 1)) fun row_26 =>
              (appendK 1 8 x16 x16n x16c 1 row_26 (r_24.2 ++ [AObj.cells [.pointer p_25] ⟨false, 0⟩]) fun p_27 n_28 c_29 M_30 =>
              (if chkOk [(7, 13)] [(7, a_18.block)] [(13, (M_11, r_22.2))] = true
              then P4_52 L x2 x2n x2c x3 x3n x3c x4 x9 x11 x12 x13 p_8 n_9 c_10 p_27 n_28 c_29 x17 M_30
              else none))))))))
            else none)
          | none => none))
        else none)
      | none => none)))))))))))))))
    else P4_52 L x2 x2n x2c x3 x3n x3c x4 x9 x11 x12 x13 x15 x15n x15c x16 x16n x16c x17 M) := by
  subst hP4_45; subst hP4_52; kernel_rfl
theorem P4_45_eq (L : Rec) (x2 : Option Addr) (x2n : Nat) (x2c : Nat) (x3 : Option Addr) (x3n : Nat) (x3c : Nat) (x4 : Nat) (x9 : Nat) (x11 : Option Addr) (x12 : Option Addr) (x13 : Nat) (x15 : Option Addr) (x15n : Nat) (x15c : Nat) (x16 : Option Addr) (x16n : Nat) (x16c : Nat) (x17 : Int) (x18 : Nat) (x19 : Bool) (M : AMem) : P4_45 L x2 x2n x2c x3 x3n x3c x4 x9 x11 x12 x13 x15 x15n x15c x16 x16n x16c x17 x18 x19 M =
  (if x19 = true
    then (Option.bind (intOf? .i64 (AMem.ld M x18 0)) fun x_1 =>
      (Option.bind (sliceOf? (AMem.ld M x18 1)) fun s_2 =>
      (Option.bind (intOf? .i64 (AMem.ld M x18 2)) fun x_3 =>
      (Option.bind (boolOf? (AMem.ld M x18 3)) fun q_4 =>
      (Option.bind (intOf? .u64 (AMem.ld M x18 4)) fun x_5 =>
      (Option.bind (intOf? .i64 (AMem.ld M x18 5)) fun x_6 =>
      (Option.bind (rowOf (M ++ [AObj.cells [.int .i64 x_1, .slice s_2.1 s_2.2.1 s_2.2.2, .int .i64 x_3, .bool q_4, .int .u64 x_5, .int .i64 x_6] ⟨false, 0⟩]) 6 (.slice (some ⟨(List.length M), 0, none⟩) 1 6)) fun row_7 =>
      (appendK 6 64 x15 x15n x15c 1 row_7 (M ++ [AObj.cells [.int .i64 x_1, .slice s_2.1 s_2.2.1 s_2.2.2, .int .i64 x_3, .bool q_4, .int .u64 x_5, .int .i64 x_6] ⟨false, 0⟩]) fun p_8 n_9 c_10 M_11 =>
      (Option.bind (intOf? .i64 (AMem.ld M_11 x4 0)) fun x_12 =>
      (Option.bind (intOf? .i64 (AMem.ld M_11 x4 1)) fun x_13 =>
      (Option.bind (L.call 12 [.agg #[.int .i64 x_12, .int .i64 x_13]] []) fun r_14 =>
      (Option.bind (aggOf? 2 r_14.1) fun cs_15 =>
      (Option.bind (intOf? .i64 (cs_15[0]?)) fun x_16 =>
      (Option.bind (intOf? .i64 (cs_15[1]?)) fun x_17 =>
      (match x2 with
      | some a_18 => (if (0 : Int) ≤ x17 ∧ x17 < (Int.ofNat x2n)
        then (Option.bind (intOf? .i64 (AMem.ld M_11 a_18.block (a_18.off + ((Int.toNat x17) * 2)))) fun x_19 =>
          (match x2 with
          | some a_20 => (if (0 : Int) ≤ x17 ∧ x17 < (Int.ofNat x2n)
            then (Option.bind (sliceOf? (AMem.ld M_11 a_20.block ((a_20.off + ((Int.toNat x17) * 2)) + 1))) fun s_21 =>
              (Option.bind (L.call 14 [.slice s_21.1 s_21.2.1 s_21.2.2] M_11) fun r_22 =>
              (Option.bind (sliceOf? (some r_22.1)) fun s_23 =>
              (Option.bind (L.call 13 [.agg #[.int .i64 x_16, .int .i64 x_17], .int .i64 x_19, .slice s_23.1 s_23.2.1 s_23.2.2] r_22.2) fun r_24 =>
              (Option.bind (ptrOf? (some r_24.1)) fun p_25 =>
              (Option.bind (rowOf (r_24.2 ++ [AObj.cells [.pointer p_25] ⟨false, 0⟩]) 1 (.slice (some ⟨(List.length r_24.2), 0, none⟩) 1 1)) fun row_26 =>
              (appendK 1 8 x16 x16n x16c 1 row_26 (r_24.2 ++ [AObj.cells [.pointer p_25] ⟨false, 0⟩]) fun p_27 n_28 c_29 M_30 =>
              (if chkOk [(7, 13)] [(7, a_18.block)] [(13, (M_11, r_22.2))] = true
              then P4_52 L x2 x2n x2c x3 x3n x3c x4 x9 x11 x12 x13 p_8 n_9 c_10 p_27 n_28 c_29 x17 M_30
              else none))))))))
            else none)
          | none => none))
        else none)
      | none => none)))))))))))))))
    else P4_52 L x2 x2n x2c x3 x3n x3c x4 x9 x11 x12 x13 x15 x15n x15c x16 x16n x16c x17 M) := QP4_45_eq L b4_34 c4_52 c4_53 P4_45 (Classical.choose_spec XP4_45) P4_52 (Classical.choose_spec XP4_52) x2 x2n x2c x3 x3n x3c x4 x9 x11 x12 x13 x15 x15n x15c x16 x16n x16c x17 x18 x19 M
theorem QP4_53_eq (L : Rec) (b4_57 c4_86 : ACode) (P4_53 : Rec → (Option Addr) → Nat → Nat → Nat → Nat → (Option Addr) → (Option Addr) → Nat → (Option Addr) → Nat → Nat → (Option Addr) → Nat → Nat → AMem → Res) (hP4_53 : Eq P4_53 fun L x3 x3n x3c x4 x9 x11 x12 x13 x15 x15n x15c x16 x16n x16c M => code L (.seq (.seq (.ops o4_55) (.block 2 (.clear zl11 (.loop b4_57)))) (.clear zl15 c4_86)) (retK [.tmp 8]) (s4_53 x3 x3n x3c x4 x9 x11 x12 x13 x15 x15n x15c x16 x16n x16c M) M) (P4_57 : Rec → (Option Addr) → Nat → Nat → Nat → Nat → (Option Addr) → (Option Addr) → Nat → (Option Addr) → Nat → Nat → (Option Addr) → Nat → Nat → Int → AMem → Res) (hP4_57 : Eq P4_57 fun L x3 x3n x3c x4 x9 x11 x12 x13 x15 x15n x15c x16 x16n x16c x20 M => L.loop b4_57 (blockK 2 (seqK (code L (.clear zl15 c4_86) (retK [.tmp 8])) (retK [.tmp 8]))) (s4_57 x3 x3n x3c x4 x9 x11 x12 x13 x15 x15n x15c x16 x16n x16c x20 M) M) (x3 : Option Addr) (x3n : Nat) (x3c : Nat) (x4 : Nat) (x9 : Nat) (x11 : Option Addr) (x12 : Option Addr) (x13 : Nat) (x15 : Option Addr) (x15n : Nat) (x15c : Nat) (x16 : Option Addr) (x16n : Nat) (x16c : Nat) (M : AMem) : P4_53 L x3 x3n x3c x4 x9 x11 x12 x13 x15 x15n x15c x16 x16n x16c M =
  P4_57 L x3 x3n x3c x4 x9 x11 x12 x13 x15 x15n x15c x16 x16n x16c 0 M := by
  subst hP4_53; subst hP4_57; kernel_rfl
theorem P4_53_eq (L : Rec) (x3 : Option Addr) (x3n : Nat) (x3c : Nat) (x4 : Nat) (x9 : Nat) (x11 : Option Addr) (x12 : Option Addr) (x13 : Nat) (x15 : Option Addr) (x15n : Nat) (x15c : Nat) (x16 : Option Addr) (x16n : Nat) (x16c : Nat) (M : AMem) : P4_53 L x3 x3n x3c x4 x9 x11 x12 x13 x15 x15n x15c x16 x16n x16c M =
  P4_57 L x3 x3n x3c x4 x9 x11 x12 x13 x15 x15n x15c x16 x16n x16c 0 M := QP4_53_eq L b4_57 c4_86 P4_53 (Classical.choose_spec XP4_53) P4_57 (Classical.choose_spec XP4_57) x3 x3n x3c x4 x9 x11 x12 x13 x15 x15n x15c x16 x16n x16c M
theorem QP4_52_eq (L : Rec) (b4_34 c4_53 : ACode) (P4_34 : Rec → (Option Addr) → Nat → Nat → (Option Addr) → Nat → Nat → Nat → Nat → (Option Addr) → (Option Addr) → Nat → (Option Addr) → Nat → Nat → (Option Addr) → Nat → Nat → Int → AMem → Res) (hP4_34 : Eq P4_34 fun L x2 x2n x2c x3 x3n x3c x4 x9 x11 x12 x13 x15 x15n x15c x16 x16n x16c x17 M => L.loop b4_34 (blockK 0 (seqK (code L (.clear zl16 c4_53) (retK [.tmp 8])) (retK [.tmp 8]))) (s4_34 x2 x2n x2c x3 x3n x3c x4 x9 x11 x12 x13 x15 x15n x15c x16 x16n x16c x17 M) M) (P4_52 : Rec → (Option Addr) → Nat → Nat → (Option Addr) → Nat → Nat → Nat → Nat → (Option Addr) → (Option Addr) → Nat → (Option Addr) → Nat → Nat → (Option Addr) → Nat → Nat → Int → AMem → Res) (hP4_52 : Eq P4_52 fun L x2 x2n x2c x3 x3n x3c x4 x9 x11 x12 x13 x15 x15n x15c x16 x16n x16c x17 M => code L (.ops o4_52) (postK zl8 (loopK L b4_34 (blockK 0 (seqK (code L (.clear zl16 c4_53) (retK [.tmp 8])) (retK [.tmp 8]))))) (s4_52 x2 x2n x2c x3 x3n x3c x4 x9 x11 x12 x13 x15 x15n x15c x16 x16n x16c x17 M) M) (x2 : Option Addr) (x2n : Nat) (x2c : Nat) (x3 : Option Addr) (x3n : Nat) (x3c : Nat) (x4 : Nat) (x9 : Nat) (x11 : Option Addr) (x12 : Option Addr) (x13 : Nat) (x15 : Option Addr) (x15n : Nat) (x15c : Nat) (x16 : Option Addr) (x16n : Nat) (x16c : Nat) (x17 : Int) (M : AMem) : P4_52 L x2 x2n x2c x3 x3n x3c x4 x9 x11 x12 x13 x15 x15n x15c x16 x16n x16c x17 M =
  P4_34 L x2 x2n x2c x3 x3n x3c x4 x9 x11 x12 x13 x15 x15n x15c x16 x16n x16c (IntKind.wrap .i64 (x17 + 1)) M := by
  subst hP4_34; subst hP4_52; kernel_rfl
theorem P4_52_eq (L : Rec) (x2 : Option Addr) (x2n : Nat) (x2c : Nat) (x3 : Option Addr) (x3n : Nat) (x3c : Nat) (x4 : Nat) (x9 : Nat) (x11 : Option Addr) (x12 : Option Addr) (x13 : Nat) (x15 : Option Addr) (x15n : Nat) (x15c : Nat) (x16 : Option Addr) (x16n : Nat) (x16c : Nat) (x17 : Int) (M : AMem) : P4_52 L x2 x2n x2c x3 x3n x3c x4 x9 x11 x12 x13 x15 x15n x15c x16 x16n x16c x17 M =
  P4_34 L x2 x2n x2c x3 x3n x3c x4 x9 x11 x12 x13 x15 x15n x15c x16 x16n x16c (IntKind.wrap .i64 (x17 + 1)) M := QP4_52_eq L b4_34 c4_53 P4_34 (Classical.choose_spec XP4_34) P4_52 (Classical.choose_spec XP4_52) x2 x2n x2c x3 x3n x3c x4 x9 x11 x12 x13 x15 x15n x15c x16 x16n x16c x17 M
theorem QP4_57_eq (L : Rec) (b4_57 c4_74 c4_80 c4_85 c4_86 : ACode) (hb : ∀ K t A, L.loop b4_57 K t A = code L (.post (.seq (.seq (.ops o4_60) (.cond (.tmp 125) (.skip) (.exit 2))) (.seq (.block 3 (.seq (.ops o4_67) (.seq (.seq (.ops o4_70) (.cond (.tmp 138) (.seq (.ops o4_73) (.clear zl9 c4_74)) (.skip))) (.seq (.draw [] 0 o4_79 [(9, 7), (17, 15)]) (.clear zl10 c4_80))))) (.clear zl11 c4_85))) zl11) (loopK L b4_57 K) t A) (P4_57 : Rec → (Option Addr) → Nat → Nat → Nat → Nat → (Option Addr) → (Option Addr) → Nat → (Option Addr) → Nat → Nat → (Option Addr) → Nat → Nat → Int → AMem → Res) (hP4_57 : Eq P4_57 fun L x3 x3n x3c x4 x9 x11 x12 x13 x15 x15n x15c x16 x16n x16c x20 M => L.loop b4_57 (blockK 2 (seqK (code L (.clear zl15 c4_86) (retK [.tmp 8])) (retK [.tmp 8]))) (s4_57 x3 x3n x3c x4 x9 x11 x12 x13 x15 x15n x15c x16 x16n x16c x20 M) M) (P4_80 : Rec → (Option Addr) → Nat → Nat → Nat → Nat → (Option Addr) → (Option Addr) → Nat → (Option Addr) → Nat → Nat → (Option Addr) → Nat → Nat → Int → Bool → AMem → Res) (hP4_80 : Eq P4_80 fun L x3 x3n x3c x4 x9 x11 x12 x13 x15 x15n x15c x16 x16n x16c x20 x170 M => code L c4_80 (blockK 3 (seqK (code L (.clear zl11 c4_85) (postK zl11 (loopK L b4_57 (blockK 2 (seqK (code L (.clear zl15 c4_86) (retK [.tmp 8])) (retK [.tmp 8])))))) (postK zl11 (loopK L b4_57 (blockK 2 (seqK (code L (.clear zl15 c4_86) (retK [.tmp 8])) (retK [.tmp 8]))))))) (s4_80 x3 x3n x3c x4 x9 x11 x12 x13 x15 x15n x15c x16 x16n x16c x20 x170 M) M) (P4_86 : Rec → Nat → Nat → (Option Addr) → (Option Addr) → Nat → AMem → Res) (hP4_86 : Eq P4_86 fun L x4 x9 x11 x12 x13 M => code L c4_86 (retK [.tmp 8]) (s4_86 x4 x9 x11 x12 x13 M) M) (P4_74 : Rec → (Option Addr) → Nat → Nat → Nat → Nat → (Option Addr) → (Option Addr) → Nat → (Option Addr) → Nat → Nat → (Option Addr) → Nat → Nat → Int → Int → AMem → Res) (hP4_74 : Eq P4_74 fun L x3 x3n x3c x4 x9 x11 x12 x13 x15 x15n x15c x16 x16n x16c x20 x21 M => code L c4_74 (seqK (code L (.seq (.draw [] 0 o4_79 [(9, 7), (17, 15)]) (.clear zl10 c4_80)) (blockK 3 (seqK (code L (.clear zl11 c4_85) (postK zl11 (loopK L b4_57 (blockK 2 (seqK (code L (.clear zl15 c4_86) (retK [.tmp 8])) (retK [.tmp 8])))))) (postK zl11 (loopK L b4_57 (blockK 2 (seqK (code L (.clear zl15 c4_86) (retK [.tmp 8])) (retK [.tmp 8])))))))) (blockK 3 (seqK (code L (.clear zl11 c4_85) (postK zl11 (loopK L b4_57 (blockK 2 (seqK (code L (.clear zl15 c4_86) (retK [.tmp 8])) (retK [.tmp 8])))))) (postK zl11 (loopK L b4_57 (blockK 2 (seqK (code L (.clear zl15 c4_86) (retK [.tmp 8])) (retK [.tmp 8])))))))) (s4_74 x3 x3n x3c x4 x9 x11 x12 x13 x15 x15n x15c x16 x16n x16c x20 x21 M) M) (x3 : Option Addr) (x3n : Nat) (x3c : Nat) (x4 : Nat) (x9 : Nat) (x11 : Option Addr) (x12 : Option Addr) (x13 : Nat) (x15 : Option Addr) (x15n : Nat) (x15c : Nat) (x16 : Option Addr) (x16n : Nat) (x16c : Nat) (x20 : Int) (M : AMem) : P4_57 L x3 x3n x3c x4 x9 x11 x12 x13 x15 x15n x15c x16 x16n x16c x20 M =
  (if (decide (x20 < (Int.ofNat x3n))) = true
    then (match x3 with
      | some a_1 => (if (0 : Int) ≤ x20 ∧ x20 < (Int.ofNat x3n)
        then (Option.bind (intOf? .u8 (AMem.ld M a_1.block (a_1.off + ((Int.toNat x20) * 1)))) fun x_2 =>
          (if (IntKind.wrap .i64 ((Int.ofNat x16n) + 1)) = 0
          then none
          else (if (decide ((Int.tmod (IntKind.wrap .i64 x_2) (IntKind.wrap .i64 ((Int.ofNat x16n) + 1))) > 0)) = true
            then (match x16 with
              | some a_3 => (if (0 : Int) ≤ (IntKind.wrap .i64 ((Int.tmod (IntKind.wrap .i64 x_2) (IntKind.wrap .i64 ((Int.ofNat x16n) + 1))) - 1)) ∧ (IntKind.wrap .i64 ((Int.tmod (IntKind.wrap .i64 x_2) (IntKind.wrap .i64 ((Int.ofNat x16n) + 1))) - 1)) < (Int.ofNat x16n)
                then (Option.bind (ptrOf? (AMem.ld M a_3.block (a_3.off + ((Int.toNat (IntKind.wrap .i64 ((Int.tmod (IntKind.wrap .i64 x_2) (IntKind.wrap .i64 ((Int.ofNat x16n) + 1))) - 1))) * 1)))) fun p_4 =>
                  (Option.bind (L.call 18 [.pointer p_4, .pointer x11] M) fun r_5 =>
                  (Option.bind (boolOf? (some r_5.1)) fun q_6 =>
                  P4_74 L x3 x3n x3c x4 x9 x11 x12 x13 x15 x15n x15c x16 x16n x16c x20 (Int.tmod (IntKind.wrap .i64 x_2) (IntKind.wrap .i64 ((Int.ofNat x16n) + 1))) r_5.2)))
                else none)
              | none => none)
            else (Option.bind (L.call 17 [.pointer x12, .pointer x11] M) fun r_7 =>
              (Option.bind (boolOf? (some r_7.1)) fun q_8 =>
              (Option.bind (L.call 27 [.pointer (some ⟨x13, 0, none⟩), .pointer (some ⟨x9, 0, none⟩)] r_7.2) fun r_9 =>
              (Option.bind (boolOf? (some r_9.1)) fun q_10 =>
              (if (!(q_8 == q_10)) = true
              then P4_80 L x3 x3n x3c x4 x9 x11 x12 x13 x15 x15n x15c x16 x16n x16c x20 true r_9.2
              else (Option.bind (L.call 15 [.pointer x12] r_9.2) fun r_11 =>
                (Option.bind (boolOf? (some r_11.1)) fun q_12 =>
                (Option.bind (intOf? .i64 (AMem.ld r_11.2 x13 5)) fun x_13 =>
                (if (!(q_12 == (x_13 != 13))) = true
                then (if chkOk [(9, 7), (17, 15)] [(9, x13)] [(15, (r_11.2, r_11.2)), (7, (r_9.2, r_11.2))] = true
                  then P4_80 L x3 x3n x3c x4 x9 x11 x12 x13 x15 x15n x15c x16 x16n x16c x20 true r_11.2
                  else none)
                else (Option.bind (L.call 21 [.pointer x12] r_11.2) fun r_14 =>
                  (Option.bind (intOf? .i64 (some r_14.1)) fun x_15 =>
                  (Option.bind (intOf? .i64 (AMem.ld r_14.2 x13 3)) fun x_16 =>
                  (if chkOk [(9, 7), (17, 15)] [(17, x13), (9, x13)] [(15, (r_11.2, r_14.2)), (7, (r_9.2, r_11.2))] = true
                  then P4_80 L x3 x3n x3c x4 x9 x11 x12 x13 x15 x15n x15c x16 x16n x16c x20 (x_15 != x_16) r_14.2
                  else none))))))))))))))))
        else none)
      | none => none)
    else P4_86 L x4 x9 x11 x12 x13 M) := by
  subst hP4_57; subst hP4_80; subst hP4_86; subst hP4_74; exact (hb (blockK 2 (seqK (code L (.clear zl15 c4_86) (retK [.tmp 8])) (retK [.tmp 8]))) (s4_57 x3 x3n x3c x4 x9 x11 x12 x13 x15 x15n x15c x16 x16n x16c x20 M) M).trans (by kernel_rfl)
theorem P4_57_eq (L : Rec) (hL : ∀ b K t A, L.loop b K t A = code L b (loopK L b K) t A) (x3 : Option Addr) (x3n : Nat) (x3c : Nat) (x4 : Nat) (x9 : Nat) (x11 : Option Addr) (x12 : Option Addr) (x13 : Nat) (x15 : Option Addr) (x15n : Nat) (x15c : Nat) (x16 : Option Addr) (x16n : Nat) (x16c : Nat) (x20 : Int) (M : AMem) : P4_57 L x3 x3n x3c x4 x9 x11 x12 x13 x15 x15n x15c x16 x16n x16c x20 M =
  (if (decide (x20 < (Int.ofNat x3n))) = true
    then (match x3 with
      | some a_1 => (if (0 : Int) ≤ x20 ∧ x20 < (Int.ofNat x3n)
        then (Option.bind (intOf? .u8 (AMem.ld M a_1.block (a_1.off + ((Int.toNat x20) * 1)))) fun x_2 =>
          (if (IntKind.wrap .i64 ((Int.ofNat x16n) + 1)) = 0
          then none
          else (if (decide ((Int.tmod (IntKind.wrap .i64 x_2) (IntKind.wrap .i64 ((Int.ofNat x16n) + 1))) > 0)) = true
            then (match x16 with
              | some a_3 => (if (0 : Int) ≤ (IntKind.wrap .i64 ((Int.tmod (IntKind.wrap .i64 x_2) (IntKind.wrap .i64 ((Int.ofNat x16n) + 1))) - 1)) ∧ (IntKind.wrap .i64 ((Int.tmod (IntKind.wrap .i64 x_2) (IntKind.wrap .i64 ((Int.ofNat x16n) + 1))) - 1)) < (Int.ofNat x16n)
                then (Option.bind (ptrOf? (AMem.ld M a_3.block (a_3.off + ((Int.toNat (IntKind.wrap .i64 ((Int.tmod (IntKind.wrap .i64 x_2) (IntKind.wrap .i64 ((Int.ofNat x16n) + 1))) - 1))) * 1)))) fun p_4 =>
                  (Option.bind (L.call 18 [.pointer p_4, .pointer x11] M) fun r_5 =>
                  (Option.bind (boolOf? (some r_5.1)) fun q_6 =>
                  P4_74 L x3 x3n x3c x4 x9 x11 x12 x13 x15 x15n x15c x16 x16n x16c x20 (Int.tmod (IntKind.wrap .i64 x_2) (IntKind.wrap .i64 ((Int.ofNat x16n) + 1))) r_5.2)))
                else none)
              | none => none)
            else (Option.bind (L.call 17 [.pointer x12, .pointer x11] M) fun r_7 =>
              (Option.bind (boolOf? (some r_7.1)) fun q_8 =>
              (Option.bind (L.call 27 [.pointer (some ⟨x13, 0, none⟩), .pointer (some ⟨x9, 0, none⟩)] r_7.2) fun r_9 =>
              (Option.bind (boolOf? (some r_9.1)) fun q_10 =>
              (if (!(q_8 == q_10)) = true
              then P4_80 L x3 x3n x3c x4 x9 x11 x12 x13 x15 x15n x15c x16 x16n x16c x20 true r_9.2
              else (Option.bind (L.call 15 [.pointer x12] r_9.2) fun r_11 =>
                (Option.bind (boolOf? (some r_11.1)) fun q_12 =>
                (Option.bind (intOf? .i64 (AMem.ld r_11.2 x13 5)) fun x_13 =>
                (if (!(q_12 == (x_13 != 13))) = true
                then (if chkOk [(9, 7), (17, 15)] [(9, x13)] [(15, (r_11.2, r_11.2)), (7, (r_9.2, r_11.2))] = true
                  then P4_80 L x3 x3n x3c x4 x9 x11 x12 x13 x15 x15n x15c x16 x16n x16c x20 true r_11.2
                  else none)
                else (Option.bind (L.call 21 [.pointer x12] r_11.2) fun r_14 =>
                  (Option.bind (intOf? .i64 (some r_14.1)) fun x_15 =>
                  (Option.bind (intOf? .i64 (AMem.ld r_14.2 x13 3)) fun x_16 =>
                  (if chkOk [(9, 7), (17, 15)] [(17, x13), (9, x13)] [(15, (r_11.2, r_14.2)), (7, (r_9.2, r_11.2))] = true
                  then P4_80 L x3 x3n x3c x4 x9 x11 x12 x13 x15 x15n x15c x16 x16n x16c x20 (x_15 != x_16) r_14.2
                  else none))))))))))))))))
        else none)
      | none => none)
    else P4_86 L x4 x9 x11 x12 x13 M) := QP4_57_eq L b4_57 c4_74 c4_80 c4_85 c4_86 (hL b4_57) P4_57 (Classical.choose_spec XP4_57) P4_80 (Classical.choose_spec XP4_80) P4_86 (Classical.choose_spec XP4_86) P4_74 (Classical.choose_spec XP4_74) x3 x3n x3c x4 x9 x11 x12 x13 x15 x15n x15c x16 x16n x16c x20 M
theorem QP4_80_eq (L : Rec) (b4_57 c4_85 c4_86 : ACode) (P4_80 : Rec → (Option Addr) → Nat → Nat → Nat → Nat → (Option Addr) → (Option Addr) → Nat → (Option Addr) → Nat → Nat → (Option Addr) → Nat → Nat → Int → Bool → AMem → Res) (hP4_80 : Eq P4_80 fun L x3 x3n x3c x4 x9 x11 x12 x13 x15 x15n x15c x16 x16n x16c x20 x170 M => code L (.cond (.tmp 170) (.seq (.ops o4_82) (.ret)) (.skip)) (blockK 3 (seqK (code L (.clear zl11 c4_85) (postK zl11 (loopK L b4_57 (blockK 2 (seqK (code L (.clear zl15 c4_86) (retK [.tmp 8])) (retK [.tmp 8])))))) (postK zl11 (loopK L b4_57 (blockK 2 (seqK (code L (.clear zl15 c4_86) (retK [.tmp 8])) (retK [.tmp 8]))))))) (s4_80 x3 x3n x3c x4 x9 x11 x12 x13 x15 x15n x15c x16 x16n x16c x20 x170 M) M) (P4_85 : Rec → (Option Addr) → Nat → Nat → Nat → Nat → (Option Addr) → (Option Addr) → Nat → (Option Addr) → Nat → Nat → (Option Addr) → Nat → Nat → Int → AMem → Res) (hP4_85 : Eq P4_85 fun L x3 x3n x3c x4 x9 x11 x12 x13 x15 x15n x15c x16 x16n x16c x20 M => code L c4_85 (postK zl11 (loopK L b4_57 (blockK 2 (seqK (code L (.clear zl15 c4_86) (retK [.tmp 8])) (retK [.tmp 8]))))) (s4_85 x3 x3n x3c x4 x9 x11 x12 x13 x15 x15n x15c x16 x16n x16c x20 M) M) (x3 : Option Addr) (x3n : Nat) (x3c : Nat) (x4 : Nat) (x9 : Nat) (x11 : Option Addr) (x12 : Option Addr) (x13 : Nat) (x15 : Option Addr) (x15n : Nat) (x15c : Nat) (x16 : Option Addr) (x16n : Nat) (x16c : Nat) (x20 : Int) (x170 : Bool) (M : AMem) : P4_80 L x3 x3n x3c x4 x9 x11 x12 x13 x15 x15n x15c x16 x16n x16c x20 x170 M =
  (if x170 = true
    then some (.bool false, M)
    else P4_85 L x3 x3n x3c x4 x9 x11 x12 x13 x15 x15n x15c x16 x16n x16c x20 M) := by
  subst hP4_80; subst hP4_85; kernel_rfl
theorem P4_80_eq (L : Rec) (x3 : Option Addr) (x3n : Nat) (x3c : Nat) (x4 : Nat) (x9 : Nat) (x11 : Option Addr) (x12 : Option Addr) (x13 : Nat) (x15 : Option Addr) (x15n : Nat) (x15c : Nat) (x16 : Option Addr) (x16n : Nat) (x16c : Nat) (x20 : Int) (x170 : Bool) (M : AMem) : P4_80 L x3 x3n x3c x4 x9 x11 x12 x13 x15 x15n x15c x16 x16n x16c x20 x170 M =
  (if x170 = true
    then some (.bool false, M)
    else P4_85 L x3 x3n x3c x4 x9 x11 x12 x13 x15 x15n x15c x16 x16n x16c x20 M) := QP4_80_eq L b4_57 c4_85 c4_86 P4_80 (Classical.choose_spec XP4_80) P4_85 (Classical.choose_spec XP4_85) x3 x3n x3c x4 x9 x11 x12 x13 x15 x15n x15c x16 x16n x16c x20 x170 M
theorem QP4_86_eq (L : Rec) (c4_96 : ACode) (P4_86 : Rec → Nat → Nat → (Option Addr) → (Option Addr) → Nat → AMem → Res) (hP4_86 : Eq P4_86 fun L x4 x9 x11 x12 x13 M => code L (.seq (.ops o4_87) (.seq (.ops o4_89) (.seq (.ops o4_91) (.seq (.ops o4_93) (.seq (.ops o4_95) (.clear zl14 c4_96)))))) (retK [.tmp 8]) (s4_86 x4 x9 x11 x12 x13 M) M) (P4_96 : Rec → Nat → Nat → (Option Addr) → (Option Addr) → Nat → Nat → Int → (Option Addr) → Nat → Nat → Int → Nat → Int → AMem → Res) (hP4_96 : Eq P4_96 fun L x4 x9 x11 x22 x22n x22c x23 x24 x24n x24c x25 x27 x29 M => code L c4_96 (retK [.tmp 8]) (s4_96 x4 x9 x11 x22 x22n x22c x23 x24 x24n x24c x25 x27 x29 M) M) (x4 : Nat) (x9 : Nat) (x11 : Option Addr) (x12 : Option Addr) (x13 : Nat) (M : AMem) : P4_86 L x4 x9 x11 x12 x13 M =
  (Option.bind (L.call 20 [.pointer x12] M) fun r_1 =>
    (Option.bind (tupOf? 2 r_1.1) fun cs_2 =>
    (Option.bind (cs_2[0]?) fun u_3 =>
    (Option.bind (sliceOf? (some u_3)) fun s_4 =>
    (Option.bind (cs_2[1]?) fun u_5 =>
    (Option.bind (intOf? .i64 (some u_5)) fun x_6 =>
    (Option.bind (L.call 28 [.pointer (some ⟨x13, 0, none⟩)] r_1.2) fun r_7 =>
    (Option.bind (tupOf? 2 r_7.1) fun cs_8 =>
    (Option.bind (cs_8[0]?) fun u_9 =>
    (Option.bind (sliceOf? (some u_9)) fun s_10 =>
    (Option.bind (cs_8[1]?) fun u_11 =>
    (Option.bind (intOf? .i64 (some u_11)) fun x_12 =>
    (Option.bind (L.call 20 [.pointer none] (r_7.2 ++ [AObj.cells [.int .i64 0, .int .i64 0, .int .i64 0, .int .i64 0, .int .i64 0, .slice none 0 0, .slice none 0 0, .slice none 0 0, .int .i64 0, .bool false] ⟨false, 0⟩])) fun r_13 =>
    (Option.bind (tupOf? 2 r_13.1) fun cs_14 =>
    (Option.bind (cs_14[0]?) fun u_15 =>
    (Option.bind (sliceOf? (some u_15)) fun s_16 =>
    (Option.bind (cs_14[1]?) fun u_17 =>
    (Option.bind (intOf? .i64 (some u_17)) fun x_18 =>
    P4_96 L x4 x9 x11 s_4.1 s_4.2.1 s_4.2.2 x_6 s_10.1 s_10.2.1 s_10.2.2 x_12 (List.length r_7.2) x_18 r_13.2)))))))))))))))))) := by
  subst hP4_86; subst hP4_96; kernel_rfl
theorem P4_86_eq (L : Rec) (x4 : Nat) (x9 : Nat) (x11 : Option Addr) (x12 : Option Addr) (x13 : Nat) (M : AMem) : P4_86 L x4 x9 x11 x12 x13 M =
  (Option.bind (L.call 20 [.pointer x12] M) fun r_1 =>
    (Option.bind (tupOf? 2 r_1.1) fun cs_2 =>
    (Option.bind (cs_2[0]?) fun u_3 =>
    (Option.bind (sliceOf? (some u_3)) fun s_4 =>
    (Option.bind (cs_2[1]?) fun u_5 =>
    (Option.bind (intOf? .i64 (some u_5)) fun x_6 =>
    (Option.bind (L.call 28 [.pointer (some ⟨x13, 0, none⟩)] r_1.2) fun r_7 =>
    (Option.bind (tupOf? 2 r_7.1) fun cs_8 =>
    (Option.bind (cs_8[0]?) fun u_9 =>
    (Option.bind (sliceOf? (some u_9)) fun s_10 =>
    (Option.bind (cs_8[1]?) fun u_11 =>
    (Option.bind (intOf? .i64 (some u_11)) fun x_12 =>
    (Option.bind (L.call 20 [.pointer none] (r_7.2 ++ [AObj.cells [.int .i64 0, .int .i64 0, .int .i64 0, .int .i64 0, .int .i64 0, .slice none 0 0, .slice none 0 0, .slice none 0 0, .int .i64 0, .bool false] ⟨false, 0⟩])) fun r_13 =>
    (Option.bind (tupOf? 2 r_13.1) fun cs_14 =>
    (Option.bind (cs_14[0]?) fun u_15 =>
    (Option.bind (sliceOf? (some u_15)) fun s_16 =>
    (Option.bind (cs_14[1]?) fun u_17 =>
    (Option.bind (intOf? .i64 (some u_17)) fun x_18 =>
    P4_96 L x4 x9 x11 s_4.1 s_4.2.1 s_4.2.2 x_6 s_10.1 s_10.2.1 s_10.2.2 x_12 (List.length r_7.2) x_18 r_13.2)))))))))))))))))) := QP4_86_eq L c4_96 P4_86 (Classical.choose_spec XP4_86) P4_96 (Classical.choose_spec XP4_96) x4 x9 x11 x12 x13 M
theorem QP4_85_eq (L : Rec) (b4_57 c4_86 : ACode) (P4_57 : Rec → (Option Addr) → Nat → Nat → Nat → Nat → (Option Addr) → (Option Addr) → Nat → (Option Addr) → Nat → Nat → (Option Addr) → Nat → Nat → Int → AMem → Res) (hP4_57 : Eq P4_57 fun L x3 x3n x3c x4 x9 x11 x12 x13 x15 x15n x15c x16 x16n x16c x20 M => L.loop b4_57 (blockK 2 (seqK (code L (.clear zl15 c4_86) (retK [.tmp 8])) (retK [.tmp 8]))) (s4_57 x3 x3n x3c x4 x9 x11 x12 x13 x15 x15n x15c x16 x16n x16c x20 M) M) (P4_85 : Rec → (Option Addr) → Nat → Nat → Nat → Nat → (Option Addr) → (Option Addr) → Nat → (Option Addr) → Nat → Nat → (Option Addr) → Nat → Nat → Int → AMem → Res) (hP4_85 : Eq P4_85 fun L x3 x3n x3c x4 x9 x11 x12 x13 x15 x15n x15c x16 x16n x16c x20 M => code L (.ops o4_85) (postK zl11 (loopK L b4_57 (blockK 2 (seqK (code L (.clear zl15 c4_86) (retK [.tmp 8])) (retK [.tmp 8]))))) (s4_85 x3 x3n x3c x4 x9 x11 x12 x13 x15 x15n x15c x16 x16n x16c x20 M) M) (x3 : Option Addr) (x3n : Nat) (x3c : Nat) (x4 : Nat) (x9 : Nat) (x11 : Option Addr) (x12 : Option Addr) (x13 : Nat) (x15 : Option Addr) (x15n : Nat) (x15c : Nat) (x16 : Option Addr) (x16n : Nat) (x16c : Nat) (x20 : Int) (M : AMem) : P4_85 L x3 x3n x3c x4 x9 x11 x12 x13 x15 x15n x15c x16 x16n x16c x20 M =
  P4_57 L x3 x3n x3c x4 x9 x11 x12 x13 x15 x15n x15c x16 x16n x16c (IntKind.wrap .i64 (x20 + 1)) M := by
  subst hP4_57; subst hP4_85; kernel_rfl
theorem P4_85_eq (L : Rec) (x3 : Option Addr) (x3n : Nat) (x3c : Nat) (x4 : Nat) (x9 : Nat) (x11 : Option Addr) (x12 : Option Addr) (x13 : Nat) (x15 : Option Addr) (x15n : Nat) (x15c : Nat) (x16 : Option Addr) (x16n : Nat) (x16c : Nat) (x20 : Int) (M : AMem) : P4_85 L x3 x3n x3c x4 x9 x11 x12 x13 x15 x15n x15c x16 x16n x16c x20 M =
  P4_57 L x3 x3n x3c x4 x9 x11 x12 x13 x15 x15n x15c x16 x16n x16c (IntKind.wrap .i64 (x20 + 1)) M := QP4_85_eq L b4_57 c4_86 P4_57 (Classical.choose_spec XP4_57) P4_85 (Classical.choose_spec XP4_85) x3 x3n x3c x4 x9 x11 x12 x13 x15 x15n x15c x16 x16n x16c x20 M
theorem QP4_96_eq (L : Rec) (c4_101 c4_114 : ACode) (P4_96 : Rec → Nat → Nat → (Option Addr) → (Option Addr) → Nat → Nat → Int → (Option Addr) → Nat → Nat → Int → Nat → Int → AMem → Res) (hP4_96 : Eq P4_96 fun L x4 x9 x11 x22 x22n x22c x23 x24 x24n x24c x25 x27 x29 M => code L (.seq (.ops o4_97) (.seq (.seq (.ops o4_100) (.clear zl12 c4_101)) (.seq (.ops o4_107) (.seq (.seq (.ops o4_110) (.cond (.tmp 225) (.ops o4_112) (.skip))) (.clear zl13 c4_114))))) (retK [.tmp 8]) (s4_96 x4 x9 x11 x22 x22n x22c x23 x24 x24n x24c x25 x27 x29 M) M) (P4_101 : Rec → Nat → Nat → (Option Addr) → (Option Addr) → Nat → Nat → Int → (Option Addr) → Nat → Nat → Int → Bool → AMem → Res) (hP4_101 : Eq P4_101 fun L x4 x9 x11 x22 x22n x22c x23 x24 x24n x24c x25 x223 M => code L c4_101 (seqK (code L (.seq (.ops o4_107) (.seq (.seq (.ops o4_110) (.cond (.tmp 225) (.ops o4_112) (.skip))) (.clear zl13 c4_114))) (retK [.tmp 8])) (retK [.tmp 8])) (s4_101 x4 x9 x11 x22 x22n x22c x23 x24 x24n x24c x25 x223 M) M) (x4 : Nat) (x9 : Nat) (x11 : Option Addr) (x22 : Option Addr) (x22n : Nat) (x22c : Nat) (x23 : Int) (x24 : Option Addr) (x24n : Nat) (x24c : Nat) (x25 : Int) (x27 : Nat) (x29 : Int) (M : AMem) : P4_96 L x4 x9 x11 x22 x22n x22c x23 x24 x24n x24c x25 x27 x29 M =
  (Option.bind (L.call 20 [.pointer (some ⟨x27, 0, none⟩)] M) fun r_1 =>
    (Option.bind (tupOf? 2 r_1.1) fun cs_2 =>
    (Option.bind (cs_2[0]?) fun u_3 =>
    (Option.bind (sliceOf? (some u_3)) fun s_4 =>
    (Option.bind (cs_2[1]?) fun u_5 =>
    (Option.bind (intOf? .i64 (some u_5)) fun x_6 =>
    (if (x29 != 13) = true
    then P4_101 L x4 x9 x11 x22 x22n x22c x23 x24 x24n x24c x25 true r_1.2
    else (if (x_6 != 13) = true
      then P4_101 L x4 x9 x11 x22 x22n x22c x23 x24 x24n x24c x25 true r_1.2
      else (Option.bind (L.call 15 [.pointer none] r_1.2) fun r_7 =>
        (Option.bind (boolOf? (some r_7.1)) fun q_8 =>
        (if q_8 = true
        then P4_101 L x4 x9 x11 x22 x22n x22c x23 x24 x24n x24c x25 true r_7.2
        else (Option.bind (L.call 15 [.pointer (some ⟨x27, 0, none⟩)] r_7.2) fun r_9 =>
          (Option.bind (boolOf? (some r_9.1)) fun q_10 =>
          (if q_10 = true
          then P4_101 L x4 x9 x11 x22 x22n x22c x23 x24 x24n x24c x25 true r_9.2
          else (Option.bind (L.call 17 [.pointer (some ⟨x27, 0, none⟩), .pointer x11] r_9.2) fun r_11 =>
            (Option.bind (boolOf? (some r_11.1)) fun q_12 =>
            (if q_12 = true
            then P4_101 L x4 x9 x11 x22 x22n x22c x23 x24 x24n x24c x25 true r_11.2
            else (Option.bind (L.call 17 [.pointer none, .pointer x11] r_11.2) fun r_13 =>
              (Option.bind (boolOf? (some r_13.1)) fun q_14 =>
              (if q_14 = true
              then P4_101 L x4 x9 x11 x22 x22n x22c x23 x24 x24n x24c x25 true r_13.2
              else (Option.bind (L.call 21 [.pointer none] r_13.2) fun r_15 =>
                (Option.bind (intOf? .i64 (some r_15.1)) fun x_16 =>
                (Option.bind (L.call 21 [.pointer (some ⟨x27, 0, none⟩)] r_15.2) fun r_17 =>
                (Option.bind (intOf? .i64 (some r_17.1)) fun x_18 =>
                P4_101 L x4 x9 x11 x22 x22n x22c x23 x24 x24n x24c x25 ((IntKind.wrap .i64 (x_16 + x_18)) != 0) r_17.2)))))))))))))))))))))))) := by
  subst hP4_96; subst hP4_101; kernel_rfl
theorem P4_96_eq (L : Rec) (x4 : Nat) (x9 : Nat) (x11 : Option Addr) (x22 : Option Addr) (x22n : Nat) (x22c : Nat) (x23 : Int) (x24 : Option Addr) (x24n : Nat) (x24c : Nat) (x25 : Int) (x27 : Nat) (x29 : Int) (M : AMem) : P4_96 L x4 x9 x11 x22 x22n x22c x23 x24 x24n x24c x25 x27 x29 M =
  (Option.bind (L.call 20 [.pointer (some ⟨x27, 0, none⟩)] M) fun r_1 =>
    (Option.bind (tupOf? 2 r_1.1) fun cs_2 =>
    (Option.bind (cs_2[0]?) fun u_3 =>
    (Option.bind (sliceOf? (some u_3)) fun s_4 =>
    (Option.bind (cs_2[1]?) fun u_5 =>
    (Option.bind (intOf? .i64 (some u_5)) fun x_6 =>
    (if (x29 != 13) = true
    then P4_101 L x4 x9 x11 x22 x22n x22c x23 x24 x24n x24c x25 true r_1.2
    else (if (x_6 != 13) = true
      then P4_101 L x4 x9 x11 x22 x22n x22c x23 x24 x24n x24c x25 true r_1.2
      else (Option.bind (L.call 15 [.pointer none] r_1.2) fun r_7 =>
        (Option.bind (boolOf? (some r_7.1)) fun q_8 =>
        (if q_8 = true
        then P4_101 L x4 x9 x11 x22 x22n x22c x23 x24 x24n x24c x25 true r_7.2
        else (Option.bind (L.call 15 [.pointer (some ⟨x27, 0, none⟩)] r_7.2) fun r_9 =>
          (Option.bind (boolOf? (some r_9.1)) fun q_10 =>
          (if q_10 = true
          then P4_101 L x4 x9 x11 x22 x22n x22c x23 x24 x24n x24c x25 true r_9.2
          else (Option.bind (L.call 17 [.pointer (some ⟨x27, 0, none⟩), .pointer x11] r_9.2) fun r_11 =>
            (Option.bind (boolOf? (some r_11.1)) fun q_12 =>
            (if q_12 = true
            then P4_101 L x4 x9 x11 x22 x22n x22c x23 x24 x24n x24c x25 true r_11.2
            else (Option.bind (L.call 17 [.pointer none, .pointer x11] r_11.2) fun r_13 =>
              (Option.bind (boolOf? (some r_13.1)) fun q_14 =>
              (if q_14 = true
              then P4_101 L x4 x9 x11 x22 x22n x22c x23 x24 x24n x24c x25 true r_13.2
              else (Option.bind (L.call 21 [.pointer none] r_13.2) fun r_15 =>
                (Option.bind (intOf? .i64 (some r_15.1)) fun x_16 =>
                (Option.bind (L.call 21 [.pointer (some ⟨x27, 0, none⟩)] r_15.2) fun r_17 =>
                (Option.bind (intOf? .i64 (some r_17.1)) fun x_18 =>
                P4_101 L x4 x9 x11 x22 x22n x22c x23 x24 x24n x24c x25 ((IntKind.wrap .i64 (x_16 + x_18)) != 0) r_17.2)))))))))))))))))))))))) := QP4_96_eq L c4_101 c4_114 P4_96 (Classical.choose_spec XP4_96) P4_101 (Classical.choose_spec XP4_101) x4 x9 x11 x22 x22n x22c x23 x24 x24n x24c x25 x27 x29 M
theorem QP4_101_eq (L : Rec) (c4_114 : ACode) (P4_101 : Rec → Nat → Nat → (Option Addr) → (Option Addr) → Nat → Nat → Int → (Option Addr) → Nat → Nat → Int → Bool → AMem → Res) (hP4_101 : Eq P4_101 fun L x4 x9 x11 x22 x22n x22c x23 x24 x24n x24c x25 x223 M => code L (.cond (.tmp 223) (.seq (.ops o4_103) (.ret)) (.skip)) (seqK (code L (.seq (.ops o4_107) (.seq (.seq (.ops o4_110) (.cond (.tmp 225) (.ops o4_112) (.skip))) (.clear zl13 c4_114))) (retK [.tmp 8])) (retK [.tmp 8])) (s4_101 x4 x9 x11 x22 x22n x22c x23 x24 x24n x24c x25 x223 M) M) (P4_114 : Rec → Nat → Nat → (Option Addr) → (Option Addr) → Nat → Nat → Int → (Option Addr) → Nat → Nat → Int → Int → AMem → Res) (hP4_114 : Eq P4_114 fun L x4 x9 x11 x22 x22n x22c x23 x24 x24n x24c x25 x32 M => code L c4_114 (retK [.tmp 8]) (s4_114 x4 x9 x11 x22 x22n x22c x23 x24 x24n x24c x25 x32 M) M) (x4 : Nat) (x9 : Nat) (x11 : Option Addr) (x22 : Option Addr) (x22n : Nat) (x22c : Nat) (x23 : Int) (x24 : Option Addr) (x24n : Nat) (x24c : Nat) (x25 : Int) (x223 : Bool) (M : AMem) : P4_101 L x4 x9 x11 x22 x22n x22c x23 x24 x24n x24c x25 x223 M =
  (if x223 = true
    then some (.bool false, M)
    else (Option.bind (intOf? .i64 (AMem.ld M x4 0)) fun x_1 =>
      (Option.bind (intOf? .i64 (AMem.ld M x4 1)) fun x_2 =>
      (Option.bind (L.call 6 [.agg #[.int .i64 x_1, .int .i64 x_2]] []) fun r_3 =>
      (Option.bind (boolOf? (some r_3.1)) fun q_4 =>
      (if q_4 = true
      then (Option.bind (intOf? .i64 (AMem.ld M x4 1)) fun x_5 =>
        (Option.bind (intOf? .i64 (AMem.ld M x4 0)) fun x_6 =>
        P4_114 L x4 x9 x11 x22 x22n x22c x23 x24 x24n x24c x25 (IntKind.wrap .i64 ((IntKind.wrap .i64 (2 * x_5)) + (IntKind.wrap .i64 (3 * x_6)))) M))
      else P4_114 L x4 x9 x11 x22 x22n x22c x23 x24 x24n x24c x25 0 M)))))) := by
  subst hP4_101; subst hP4_114; kernel_rfl
theorem P4_101_eq (L : Rec) (x4 : Nat) (x9 : Nat) (x11 : Option Addr) (x22 : Option Addr) (x22n : Nat) (x22c : Nat) (x23 : Int) (x24 : Option Addr) (x24n : Nat) (x24c : Nat) (x25 : Int) (x223 : Bool) (M : AMem) : P4_101 L x4 x9 x11 x22 x22n x22c x23 x24 x24n x24c x25 x223 M =
  (if x223 = true
    then some (.bool false, M)
    else (Option.bind (intOf? .i64 (AMem.ld M x4 0)) fun x_1 =>
      (Option.bind (intOf? .i64 (AMem.ld M x4 1)) fun x_2 =>
      (Option.bind (L.call 6 [.agg #[.int .i64 x_1, .int .i64 x_2]] []) fun r_3 =>
      (Option.bind (boolOf? (some r_3.1)) fun q_4 =>
      (if q_4 = true
      then (Option.bind (intOf? .i64 (AMem.ld M x4 1)) fun x_5 =>
        (Option.bind (intOf? .i64 (AMem.ld M x4 0)) fun x_6 =>
        P4_114 L x4 x9 x11 x22 x22n x22c x23 x24 x24n x24c x25 (IntKind.wrap .i64 ((IntKind.wrap .i64 (2 * x_5)) + (IntKind.wrap .i64 (3 * x_6)))) M))
      else P4_114 L x4 x9 x11 x22 x22n x22c x23 x24 x24n x24c x25 0 M)))))) := QP4_101_eq L c4_114 P4_101 (Classical.choose_spec XP4_101) P4_114 (Classical.choose_spec XP4_114) x4 x9 x11 x22 x22n x22c x23 x24 x24n x24c x25 x223 M
theorem QP4_114_eq (L : Rec) (P4_114 : Rec → Nat → Nat → (Option Addr) → (Option Addr) → Nat → Nat → Int → (Option Addr) → Nat → Nat → Int → Int → AMem → Res) (hP4_114 : Eq P4_114 fun L x4 x9 x11 x22 x22n x22c x23 x24 x24n x24c x25 x32 M => code L (.seq (.draw [] 0 o4_115 [(19, 17)]) (.ret)) (retK [.tmp 8]) (s4_114 x4 x9 x11 x22 x22n x22c x23 x24 x24n x24c x25 x32 M) M) (x4 : Nat) (x9 : Nat) (x11 : Option Addr) (x22 : Option Addr) (x22n : Nat) (x22c : Nat) (x23 : Int) (x24 : Option Addr) (x24n : Nat) (x24c : Nat) (x25 : Int) (x32 : Int) (M : AMem) : P4_114 L x4 x9 x11 x22 x22n x22c x23 x24 x24n x24c x25 x32 M =
  (Option.bind (L.call 29 [.slice x22 x22n x22c, .slice x24 x24n x24c] M) fun r_1 =>
    (Option.bind (boolOf? (some r_1.1)) fun q_2 =>
    (if q_2 = true
    then (if (x23 == x25) = true
      then (Option.bind (intOf? .i64 (AMem.ld r_1.2 x4 0)) fun x_3 =>
        (Option.bind (intOf? .i64 (AMem.ld r_1.2 x4 1)) fun x_4 =>
        (Option.bind (L.call 12 [.agg #[.int .i64 x_3, .int .i64 x_4]] []) fun r_5 =>
        (Option.bind (aggOf? 2 r_5.1) fun cs_6 =>
        (Option.bind (intOf? .i64 (cs_6[0]?)) fun x_7 =>
        (Option.bind (intOf? .i64 (cs_6[1]?)) fun x_8 =>
        (Option.bind (L.call 30 [.agg #[.int .i64 x_7, .int .i64 x_8]] []) fun r_9 =>
        (Option.bind (intOf? .i64 (some r_9.1)) fun x_10 =>
        (if (x_10 == x32) = true
        then (Option.bind (L.call 31 [.pointer x11] r_1.2) fun r_11 =>
          (Option.bind (intOf? .i64 (some r_11.1)) fun x_12 =>
          (Option.bind (intOf? .i64 (AMem.ld r_11.2 x9 1)) fun x_13 =>
          (if (x_12 == x_13) = true
          then (Option.bind (L.call 8 [] []) fun r_14 =>
            (Option.bind (boolOf? (some r_14.1)) fun q_15 =>
            (if chkOk [(19, 17)] [(19, x9)] [(17, (r_1.2, r_11.2))] = true
            then some (.bool q_15, r_11.2)
            else none)))
          else (if chkOk [(19, 17)] [(19, x9)] [(17, (r_1.2, r_11.2))] = true
            then some (.bool false, r_11.2)
            else none)))))
        else some (.bool false, r_1.2))))))))))
      else some (.bool false, r_1.2))
    else some (.bool false, r_1.2)))) := by
  subst hP4_114; kernel_rfl
theorem P4_114_eq (L : Rec) (x4 : Nat) (x9 : Nat) (x11 : Option Addr) (x22 : Option Addr) (x22n : Nat) (x22c : Nat) (x23 : Int) (x24 : Option Addr) (x24n : Nat) (x24c : Nat) (x25 : Int) (x32 : Int) (M : AMem) : P4_114 L x4 x9 x11 x22 x22n x22c x23 x24 x24n x24c x25 x32 M =
  (Option.bind (L.call 29 [.slice x22 x22n x22c, .slice x24 x24n x24c] M) fun r_1 =>
    (Option.bind (boolOf? (some r_1.1)) fun q_2 =>
    (if q_2 = true
    then (if (x23 == x25) = true
      then (Option.bind (intOf? .i64 (AMem.ld r_1.2 x4 0)) fun x_3 =>
        (Option.bind (intOf? .i64 (AMem.ld r_1.2 x4 1)) fun x_4 =>
        (Option.bind (L.call 12 [.agg #[.int .i64 x_3, .int .i64 x_4]] []) fun r_5 =>
        (Option.bind (aggOf? 2 r_5.1) fun cs_6 =>
        (Option.bind (intOf? .i64 (cs_6[0]?)) fun x_7 =>
        (Option.bind (intOf? .i64 (cs_6[1]?)) fun x_8 =>
        (Option.bind (L.call 30 [.agg #[.int .i64 x_7, .int .i64 x_8]] []) fun r_9 =>
        (Option.bind (intOf? .i64 (some r_9.1)) fun x_10 =>
        (if (x_10 == x32) = true
        then (Option.bind (L.call 31 [.pointer x11] r_1.2) fun r_11 =>
          (Option.bind (intOf? .i64 (some r_11.1)) fun x_12 =>
          (Option.bind (intOf? .i64 (AMem.ld r_11.2 x9 1)) fun x_13 =>
          (if (x_12 == x_13) = true
          then (Option.bind (L.call 8 [] []) fun r_14 =>
            (Option.bind (boolOf? (some r_14.1)) fun q_15 =>
            (if chkOk [(19, 17)] [(19, x9)] [(17, (r_1.2, r_11.2))] = true
            then some (.bool q_15, r_11.2)
            else none)))
          else (if chkOk [(19, 17)] [(19, x9)] [(17, (r_1.2, r_11.2))] = true
            then some (.bool false, r_11.2)
            else none)))))
        else some (.bool false, r_1.2))))))))))
      else some (.bool false, r_1.2))
    else some (.bool false, r_1.2)))) := QP4_114_eq L P4_114 (Classical.choose_spec XP4_114) x4 x9 x11 x22 x22n x22c x23 x24 x24n x24c x25 x32 M
theorem QP4_74_eq (L : Rec) (b4_57 c4_80 c4_85 c4_86 : ACode) (P4_85 : Rec → (Option Addr) → Nat → Nat → Nat → Nat → (Option Addr) → (Option Addr) → Nat → (Option Addr) → Nat → Nat → (Option Addr) → Nat → Nat → Int → AMem → Res) (hP4_85 : Eq P4_85 fun L x3 x3n x3c x4 x9 x11 x12 x13 x15 x15n x15c x16 x16n x16c x20 M => code L c4_85 (postK zl11 (loopK L b4_57 (blockK 2 (seqK (code L (.clear zl15 c4_86) (retK [.tmp 8])) (retK [.tmp 8]))))) (s4_85 x3 x3n x3c x4 x9 x11 x12 x13 x15 x15n x15c x16 x16n x16c x20 M) M) (P4_74 : Rec → (Option Addr) → Nat → Nat → Nat → Nat → (Option Addr) → (Option Addr) → Nat → (Option Addr) → Nat → Nat → (Option Addr) → Nat → Nat → Int → Int → AMem → Res) (hP4_74 : Eq P4_74 fun L x3 x3n x3c x4 x9 x11 x12 x13 x15 x15n x15c x16 x16n x16c x20 x21 M => code L (.seq (.ops o4_75) (.exit 3)) (seqK (code L (.seq (.draw [] 0 o4_79 [(9, 7), (17, 15)]) (.clear zl10 c4_80)) (blockK 3 (seqK (code L (.clear zl11 c4_85) (postK zl11 (loopK L b4_57 (blockK 2 (seqK (code L (.clear zl15 c4_86) (retK [.tmp 8])) (retK [.tmp 8])))))) (postK zl11 (loopK L b4_57 (blockK 2 (seqK (code L (.clear zl15 c4_86) (retK [.tmp 8])) (retK [.tmp 8])))))))) (blockK 3 (seqK (code L (.clear zl11 c4_85) (postK zl11 (loopK L b4_57 (blockK 2 (seqK (code L (.clear zl15 c4_86) (retK [.tmp 8])) (retK [.tmp 8])))))) (postK zl11 (loopK L b4_57 (blockK 2 (seqK (code L (.clear zl15 c4_86) (retK [.tmp 8])) (retK [.tmp 8])))))))) (s4_74 x3 x3n x3c x4 x9 x11 x12 x13 x15 x15n x15c x16 x16n x16c x20 x21 M) M) (x3 : Option Addr) (x3n : Nat) (x3c : Nat) (x4 : Nat) (x9 : Nat) (x11 : Option Addr) (x12 : Option Addr) (x13 : Nat) (x15 : Option Addr) (x15n : Nat) (x15c : Nat) (x16 : Option Addr) (x16n : Nat) (x16c : Nat) (x20 : Int) (x21 : Int) (M : AMem) : P4_74 L x3 x3n x3c x4 x9 x11 x12 x13 x15 x15n x15c x16 x16n x16c x20 x21 M =
  (match x15 with
    | some a_1 => (if (0 : Int) ≤ (IntKind.wrap .i64 (x21 - 1)) ∧ (IntKind.wrap .i64 (x21 - 1)) < (Int.ofNat x15n)
      then (Option.bind (L.call 26 [.pointer (some ⟨a_1.block, (a_1.off + ((Int.toNat (IntKind.wrap .i64 (x21 - 1))) * 6)), none⟩), .pointer (some ⟨x9, 0, none⟩)] M) fun r_2 =>
        (Option.bind (boolOf? (some r_2.1)) fun q_3 =>
        P4_85 L x3 x3n x3c x4 x9 x11 x12 x13 x15 x15n x15c x16 x16n x16c x20 r_2.2))
      else none)
    | none => none) := by
  subst hP4_85; subst hP4_74; kernel_rfl
theorem P4_74_eq (L : Rec) (x3 : Option Addr) (x3n : Nat) (x3c : Nat) (x4 : Nat) (x9 : Nat) (x11 : Option Addr) (x12 : Option Addr) (x13 : Nat) (x15 : Option Addr) (x15n : Nat) (x15c : Nat) (x16 : Option Addr) (x16n : Nat) (x16c : Nat) (x20 : Int) (x21 : Int) (M : AMem) : P4_74 L x3 x3n x3c x4 x9 x11 x12 x13 x15 x15n x15c x16 x16n x16c x20 x21 M =
  (match x15 with
    | some a_1 => (if (0 : Int) ≤ (IntKind.wrap .i64 (x21 - 1)) ∧ (IntKind.wrap .i64 (x21 - 1)) < (Int.ofNat x15n)
      then (Option.bind (L.call 26 [.pointer (some ⟨a_1.block, (a_1.off + ((Int.toNat (IntKind.wrap .i64 (x21 - 1))) * 6)), none⟩), .pointer (some ⟨x9, 0, none⟩)] M) fun r_2 =>
        (Option.bind (boolOf? (some r_2.1)) fun q_3 =>
        P4_85 L x3 x3n x3c x4 x9 x11 x12 x13 x15 x15n x15c x16 x16n x16c x20 r_2.2))
      else none)
    | none => none) := QP4_74_eq L b4_57 c4_80 c4_85 c4_86 P4_85 (Classical.choose_spec XP4_85) P4_74 (Classical.choose_spec XP4_74) x3 x3n x3c x4 x9 x11 x12 x13 x15 x15n x15c x16 x16n x16c x20 x21 M
theorem QE4 (L : Rec) (c4_18 c4_5 : ACode) (P4_5 : Rec → Int → (Option Addr) → Nat → Nat → (Option Addr) → Nat → Nat → Nat → Bool → AMem → Res) (hP4_5 : Eq P4_5 fun L x1 x2 x2n x2c x3 x3n x3c x4 x54 M => code L c4_5 (seqK (code L (.seq (.ops o4_11) (.seq (.ops o4_13) (.seq (.ops o4_15) (.seq (.ops o4_17) (.clear zl18 c4_18))))) (retK [.tmp 8])) (retK [.tmp 8])) (s4_5 x1 x2 x2n x2c x3 x3n x3c x4 x54 M) M) (x0_0 : Int) (x0_1 : Int) (x1 : Int) (x2 : Option Addr) (x2n : Nat) (x2c : Nat) (x3 : Option Addr) (x3n : Nat) (x3c : Nat) (M : AMem) : enterF L ⟨258, [.tmp 8], .seq (.ops o4_1) (.seq (.seq (.ops o4_4) (.clear zl17 c4_5)) (.seq (.ops o4_11) (.seq (.ops o4_13) (.seq (.ops o4_15) (.seq (.ops o4_17) (.clear zl18 c4_18))))))⟩ [.agg #[.int .i64 x0_0, .int .i64 x0_1], .int .i64 x1, .slice x2 x2n x2c, .slice x3 x3n x3c] M =
  (Option.bind (intOf? .i64 (AMem.ld (M ++ [AObj.cells [.int .i64 x0_0, .int .i64 x0_1] ⟨false, 0⟩]) (List.length M) 0)) fun x_1 =>
    (Option.bind (intOf? .i64 (AMem.ld (M ++ [AObj.cells [.int .i64 x0_0, .int .i64 x0_1] ⟨false, 0⟩]) (List.length M) 1)) fun x_2 =>
    (Option.bind (L.call 6 [.agg #[.int .i64 x_1, .int .i64 x_2]] []) fun r_3 =>
    (Option.bind (boolOf? (some r_3.1)) fun q_4 =>
    (if q_4 = true
    then (Option.bind (intOf? .i64 (AMem.ld (M ++ [AObj.cells [.int .i64 x0_0, .int .i64 x0_1] ⟨false, 0⟩]) (List.length M) 0)) fun x_5 =>
      (if (decide (x_5 > 10)) = true
      then P4_5 L x1 x2 x2n x2c x3 x3n x3c (List.length M) true (M ++ [AObj.cells [.int .i64 x0_0, .int .i64 x0_1] ⟨false, 0⟩])
      else (Option.bind (intOf? .i64 (AMem.ld (M ++ [AObj.cells [.int .i64 x0_0, .int .i64 x0_1] ⟨false, 0⟩]) (List.length M) 1)) fun x_6 =>
        (if (decide (x_6 > 4)) = true
        then P4_5 L x1 x2 x2n x2c x3 x3n x3c (List.length M) true (M ++ [AObj.cells [.int .i64 x0_0, .int .i64 x0_1] ⟨false, 0⟩])
        else (Option.bind (L.call 7 [.slice x2 x2n x2c] (M ++ [AObj.cells [.int .i64 x0_0, .int .i64 x0_1] ⟨false, 0⟩])) fun r_7 =>
          (Option.bind (boolOf? (some r_7.1)) fun q_8 =>
          (if (!q_8) = true
          then P4_5 L x1 x2 x2n x2c x3 x3n x3c (List.length M) true r_7.2
          else P4_5 L x1 x2 x2n x2c x3 x3n x3c (List.length M) (decide ((Int.ofNat x3n) > 200)) r_7.2)))))))
    else (Option.bind (L.call 7 [.slice x2 x2n x2c] (M ++ [AObj.cells [.int .i64 x0_0, .int .i64 x0_1] ⟨false, 0⟩])) fun r_9 =>
      (Option.bind (boolOf? (some r_9.1)) fun q_10 =>
      (if (!q_10) = true
      then P4_5 L x1 x2 x2n x2c x3 x3n x3c (List.length M) true r_9.2
      else P4_5 L x1 x2 x2n x2c x3 x3n x3c (List.length M) (decide ((Int.ofNat x3n) > 200)) r_9.2)))))))) := by
  subst hP4_5; kernel_rfl
theorem E4 (L : Rec) (x0_0 : Int) (x0_1 : Int) (x1 : Int) (x2 : Option Addr) (x2n : Nat) (x2c : Nat) (x3 : Option Addr) (x3n : Nat) (x3c : Nat) (M : AMem) : enterF L a4 [.agg #[.int .i64 x0_0, .int .i64 x0_1], .int .i64 x1, .slice x2 x2n x2c, .slice x3 x3n x3c] M =
  (Option.bind (intOf? .i64 (AMem.ld (M ++ [AObj.cells [.int .i64 x0_0, .int .i64 x0_1] ⟨false, 0⟩]) (List.length M) 0)) fun x_1 =>
    (Option.bind (intOf? .i64 (AMem.ld (M ++ [AObj.cells [.int .i64 x0_0, .int .i64 x0_1] ⟨false, 0⟩]) (List.length M) 1)) fun x_2 =>
    (Option.bind (L.call 6 [.agg #[.int .i64 x_1, .int .i64 x_2]] []) fun r_3 =>
    (Option.bind (boolOf? (some r_3.1)) fun q_4 =>
    (if q_4 = true
    then (Option.bind (intOf? .i64 (AMem.ld (M ++ [AObj.cells [.int .i64 x0_0, .int .i64 x0_1] ⟨false, 0⟩]) (List.length M) 0)) fun x_5 =>
      (if (decide (x_5 > 10)) = true
      then P4_5 L x1 x2 x2n x2c x3 x3n x3c (List.length M) true (M ++ [AObj.cells [.int .i64 x0_0, .int .i64 x0_1] ⟨false, 0⟩])
      else (Option.bind (intOf? .i64 (AMem.ld (M ++ [AObj.cells [.int .i64 x0_0, .int .i64 x0_1] ⟨false, 0⟩]) (List.length M) 1)) fun x_6 =>
        (if (decide (x_6 > 4)) = true
        then P4_5 L x1 x2 x2n x2c x3 x3n x3c (List.length M) true (M ++ [AObj.cells [.int .i64 x0_0, .int .i64 x0_1] ⟨false, 0⟩])
        else (Option.bind (L.call 7 [.slice x2 x2n x2c] (M ++ [AObj.cells [.int .i64 x0_0, .int .i64 x0_1] ⟨false, 0⟩])) fun r_7 =>
          (Option.bind (boolOf? (some r_7.1)) fun q_8 =>
          (if (!q_8) = true
          then P4_5 L x1 x2 x2n x2c x3 x3n x3c (List.length M) true r_7.2
          else P4_5 L x1 x2 x2n x2c x3 x3n x3c (List.length M) (decide ((Int.ofNat x3n) > 200)) r_7.2)))))))
    else (Option.bind (L.call 7 [.slice x2 x2n x2c] (M ++ [AObj.cells [.int .i64 x0_0, .int .i64 x0_1] ⟨false, 0⟩])) fun r_9 =>
      (Option.bind (boolOf? (some r_9.1)) fun q_10 =>
      (if (!q_10) = true
      then P4_5 L x1 x2 x2n x2c x3 x3n x3c (List.length M) true r_9.2
      else P4_5 L x1 x2 x2n x2c x3 x3n x3c (List.length M) (decide ((Int.ofNat x3n) > 200)) r_9.2)))))))) := QE4 L c4_18 c4_5 P4_5 (Classical.choose_spec XP4_5) x0_0 x0_1 x1 x2 x2n x2c x3 x3n x3c M
end Go.Proofs.Ytpnknolehckfhaa
