/- What the pieces of some functions come to. -/
import Derived.Test.YtpnknolehckfhaaCode
set_option linter.unusedVariables false
set_option maxRecDepth 100000
namespace Go.Proofs.Ytpnknolehckfhaa
open Go Go.Ax
/-! #### flush.New -/
noncomputable def k13_14 (L : Rec) : KT := blockK 0 (seqK (code L (.clear zl32 c13_33) (retK [.tmp 6])) (retK [.tmp 6]))
def s13_14 (x1 : Int) (x2 : Option Addr) (x2n : Nat) (x2c : Nat) (x3 : Nat) (x20 : Option Addr) (x20n : Nat) (x20c : Nat) (x21 : Int) (x22 : Int) (M : AMem) : List Value := [junk, .int .i64 x1, .slice x2 x2n x2c, .pointer (some ⟨x3, 0, none⟩), junk, junk, .pointer none, junk, junk, junk, junk, junk, junk, junk, junk, junk, junk, junk, junk, junk, .slice x20 x20n x20c, .int .i64 x21, .int .i64 x22, junk, junk, junk, junk, junk, junk, junk, junk, junk, junk, junk, junk, junk, junk, junk, junk, junk, junk, .tuple #[], junk, junk, junk, junk, junk, junk, junk, junk, junk, junk, junk]
theorem XP13_14 : ∃ P : Rec → Int → (Option Addr) → Nat → Nat → Nat → (Option Addr) → Nat → Nat → Int → Int → AMem → Res, P = fun (L : Rec) (x1 : Int) (x2 : Option Addr) (x2n : Nat) (x2c : Nat) (x3 : Nat) (x20 : Option Addr) (x20n : Nat) (x20c : Nat) (x21 : Int) (x22 : Int) (M : AMem) => L.loop b13_14 (k13_14 L) (s13_14 x1 x2 x2n x2c x3 x20 x20n x20c x21 x22 M) M := ⟨_, rfl⟩
noncomputable def P13_14 : Rec → Int → (Option Addr) → Nat → Nat → Nat → (Option Addr) → Nat → Nat → Int → Int → AMem → Res := Classical.choose XP13_14
noncomputable def k13_32 (L : Rec) : KT := postK zl29 (loopK L b13_14 (blockK 0 (seqK (code L (.clear zl32 c13_33) (retK [.tmp 6])) (retK [.tmp 6]))))
def s13_32 (x1 : Int) (x2 : Option Addr) (x2n : Nat) (x2c : Nat) (x3 : Nat) (x20 : Option Addr) (x20n : Nat) (x20c : Nat) (x21 : Int) (x22 : Int) (M : AMem) : List Value := [junk, .int .i64 x1, .slice x2 x2n x2c, .pointer (some ⟨x3, 0, none⟩), junk, junk, .pointer none, junk, junk, junk, junk, junk, junk, junk, junk, junk, junk, junk, junk, junk, .slice x20 x20n x20c, .int .i64 x21, .int .i64 x22, junk, junk, junk, junk, junk, junk, junk, junk, junk, junk, junk, junk, junk, junk, junk, junk, junk, junk, .tuple #[], junk, junk, junk, junk, junk, junk, junk, junk, junk, junk, junk]
theorem XP13_32 : ∃ P : Rec → Int → (Option Addr) → Nat → Nat → Nat → (Option Addr) → Nat → Nat → Int → Int → AMem → Res, P = fun (L : Rec) (x1 : Int) (x2 : Option Addr) (x2n : Nat) (x2c : Nat) (x3 : Nat) (x20 : Option Addr) (x20n : Nat) (x20c : Nat) (x21 : Int) (x22 : Int) (M : AMem) => code L c13_32 (k13_32 L) (s13_32 x1 x2 x2n x2c x3 x20 x20n x20c x21 x22 M) M := ⟨_, rfl⟩
noncomputable def P13_32 : Rec → Int → (Option Addr) → Nat → Nat → Nat → (Option Addr) → Nat → Nat → Int → Int → AMem → Res := Classical.choose XP13_32
noncomputable def k13_33 (L : Rec) : KT := retK [.tmp 6]
def s13_33 (x1 : Int) (x2 : Option Addr) (x2n : Nat) (x2c : Nat) (x3 : Nat) (M : AMem) : List Value := [junk, .int .i64 x1, .slice x2 x2n x2c, .pointer (some ⟨x3, 0, none⟩), junk, junk, .pointer none, junk, junk, junk, junk, junk, junk, junk, junk, junk, junk, junk, junk, junk, junk, junk, junk, junk, junk, junk, junk, junk, junk, junk, junk, junk, junk, junk, junk, junk, junk, junk, junk, junk, junk, .tuple #[], junk, junk, junk, junk, junk, junk, junk, junk, junk, junk, junk]
theorem XP13_33 : ∃ P : Rec → Int → (Option Addr) → Nat → Nat → Nat → AMem → Res, P = fun (L : Rec) (x1 : Int) (x2 : Option Addr) (x2n : Nat) (x2c : Nat) (x3 : Nat) (M : AMem) => code L c13_33 (k13_33 L) (s13_33 x1 x2 x2n x2c x3 M) M := ⟨_, rfl⟩
noncomputable def P13_33 : Rec → Int → (Option Addr) → Nat → Nat → Nat → AMem → Res := Classical.choose XP13_33
noncomputable def k13_43 (L : Rec) : KT := retK [.tmp 6]
def s13_43 (x9 : Nat) (M : AMem) : List Value := [junk, junk, junk, junk, junk, junk, junk, junk, junk, .pointer (some ⟨x9, 0, none⟩), junk, junk, junk, junk, junk, junk, junk, junk, junk, junk, junk, junk, junk, junk, junk, junk, junk, junk, junk, junk, junk, junk, junk, junk, junk, junk, junk, junk, junk, junk, junk, junk, junk, junk, junk, junk, junk, junk, junk, junk, junk, junk, junk]
theorem XP13_43 : ∃ P : Rec → Nat → AMem → Res, P = fun (L : Rec) (x9 : Nat) (M : AMem) => code L c13_43 (k13_43 L) (s13_43 x9 M) M := ⟨_, rfl⟩
noncomputable def P13_43 : Rec → Nat → AMem → Res := Classical.choose XP13_43
noncomputable def k13_39 (L : Rec) (l : Nat) : KT := roundK l
def s13_39 (l : Nat) (x9 : Nat) (x40 : Value) (y0_0 : Int) (y0_1 : Int) (z : Nat) (M : AMem) : List Value := [junk, junk, junk, junk, junk, junk, .pointer none, junk, junk, .pointer (some ⟨x9, 0, none⟩), .pointer (some ⟨z, 0, none⟩), junk, junk, junk, junk, junk, junk, junk, junk, junk, junk, junk, junk, junk, junk, junk, junk, junk, junk, junk, junk, junk, junk, junk, junk, junk, junk, junk, junk, junk, x40, .agg #[.int .i64 y0_0, .int .u64 y0_1], junk, junk, junk, junk, junk, junk, junk, junk, junk, junk, junk]
def lo13_39 (s : LoopState) (pe : Option AExit) (x9 : Nat) (x40 : Value) : ALoop := ⟨s, pe, [junk, junk, junk, junk, junk, junk, .pointer none, junk, junk, .pointer (some ⟨x9, 0, none⟩), junk, junk, junk, junk, junk, junk, junk, junk, junk, junk, junk, junk, junk, junk, junk, junk, junk, junk, junk, junk, junk, junk, junk, junk, junk, junk, junk, junk, junk, junk, x40, .tuple #[], junk, junk, junk, junk, junk, junk, junk, junk, junk, junk, junk], [41], .ops o13_40, b13_39⟩
theorem XP13_39 : ∃ P : Rec → Nat → Nat → Value → Int → Int → Nat → AMem → Res, P = fun (L : Rec) (l : Nat) (x9 : Nat) (x40 : Value) (y0_0 : Int) (y0_1 : Int) (z : Nat) (M : AMem) => code L b13_39 (k13_39 L l) (s13_39 l x9 x40 y0_0 y0_1 z M) M := ⟨_, rfl⟩
noncomputable def P13_39 : Rec → Nat → Nat → Value → Int → Int → Nat → AMem → Res := Classical.choose XP13_39
theorem QP13_14_eq (L : Rec) (b13_14 c13_32 c13_33 : ACode) (hb : ∀ K t A, L.loop b13_14 K t A = code L (.post (.seq (.ops o13_16) (.seq (.cond (.tmp 23) (.skip) (.exit 0)) (.seq (.block 1 (.seq (.ops o13_24) (.seq (.ops o13_26) (.cond (.tmp 31) (.seq (.ops o13_29) (.ret)) (.skip))))) (.clear zl29 c13_32)))) zl29) (loopK L b13_14 K) t A) (P13_14 : Rec → Int → (Option Addr) → Nat → Nat → Nat → (Option Addr) → Nat → Nat → Int → Int → AMem → Res) (hP13_14 : Eq P13_14 fun L x1 x2 x2n x2c x3 x20 x20n x20c x21 x22 M => L.loop b13_14 (blockK 0 (seqK (code L (.clear zl32 c13_33) (retK [.tmp 6])) (retK [.tmp 6]))) (s13_14 x1 x2 x2n x2c x3 x20 x20n x20c x21 x22 M) M) (P13_32 : Rec → Int → (Option Addr) → Nat → Nat → Nat → (Option Addr) → Nat → Nat → Int → Int → AMem → Res) (hP13_32 : Eq P13_32 fun L x1 x2 x2n x2c x3 x20 x20n x20c x21 x22 M => code L c13_32 (postK zl29 (loopK L b13_14 (blockK 0 (seqK (code L (.clear zl32 c13_33) (retK [.tmp 6])) (retK [.tmp 6]))))) (s13_32 x1 x2 x2n x2c x3 x20 x20n x20c x21 x22 M) M) (P13_33 : Rec → Int → (Option Addr) → Nat → Nat → Nat → AMem → Res) (hP13_33 : Eq P13_33 fun L x1 x2 x2n x2c x3 M => code L c13_33 (retK [.tmp 6]) (s13_33 x1 x2 x2n x2c x3 M) M) (x1 : Int) (x2 : Option Addr) (x2n : Nat) (x2c : Nat) (x3 : Nat) (x20 : Option Addr) (x20n : Nat) (x20c : Nat) (x21 : Int) (x22 : Int) (M : AMem) : P13_14 L x1 x2 x2n x2c x3 x20 x20n x20c x21 x22 M =
  (if (decide (x22 < x21)) = true
    then (match x20 with
      | some a_1 => (if (0 : Int) ≤ x22 ∧ x22 < (Int.ofNat x20n)
        then (Option.bind (intOf? .i64 (AMem.ld M a_1.block (a_1.off + ((Int.toNat x22) * 4)))) fun x_2 =>
          (Option.bind (intOf? .u64 (AMem.ld M a_1.block ((a_1.off + ((Int.toNat x22) * 4)) + 1))) fun x_3 =>
          (Option.bind (intOf? .u64 (AMem.ld M a_1.block ((a_1.off + ((Int.toNat x22) * 4)) + 2))) fun x_4 =>
          (Option.bind (intOf? .u64 (AMem.ld M a_1.block ((a_1.off + ((Int.toNat x22) * 4)) + 3))) fun x_5 =>
          (Option.bind (AMem.wr (M ++ [AObj.cells [.int .i64 0, .int .u64 0, .int .u64 0, .int .u64 0] ⟨false, 0⟩]) (List.length M) 0 [.int .i64 x_2, .int .u64 x_3, .int .u64 x_4, .int .u64 x_5]) fun M_6 =>
          (Option.bind (intOf? .i64 (AMem.ld M_6 x3 0)) fun x_7 =>
          (Option.bind (intOf? .i64 (AMem.ld M_6 x3 1)) fun x_8 =>
          (Option.bind (intOf? .i64 (AMem.ld M_6 (List.length M) 0)) fun x_9 =>
          (Option.bind (L.call 38 [.agg #[.int .i64 x_7, .int .i64 x_8], .int .i64 x_9] []) fun r_10 =>
          (Option.bind (intOf? .i64 (some r_10.1)) fun x_11 =>
          (if (x_11 != x1) = true
          then some (.pointer none, M_6)
          else P13_32 L x1 x2 x2n x2c x3 x20 x20n x20c x21 x22 M_6)))))))))))
        else none)
      | none => none)
    else P13_33 L x1 x2 x2n x2c x3 M) := by
  subst hP13_14; subst hP13_32; subst hP13_33; exact (hb (blockK 0 (seqK (code L (.clear zl32 c13_33) (retK [.tmp 6])) (retK [.tmp 6]))) (s13_14 x1 x2 x2n x2c x3 x20 x20n x20c x21 x22 M) M).trans (by kernel_rfl)
theorem P13_14_eq (L : Rec) (hL : ∀ b K t A, L.loop b K t A = code L b (loopK L b K) t A) (x1 : Int) (x2 : Option Addr) (x2n : Nat) (x2c : Nat) (x3 : Nat) (x20 : Option Addr) (x20n : Nat) (x20c : Nat) (x21 : Int) (x22 : Int) (M : AMem) : P13_14 L x1 x2 x2n x2c x3 x20 x20n x20c x21 x22 M =
  (if (decide (x22 < x21)) = true
    then (match x20 with
      | some a_1 => (if (0 : Int) ≤ x22 ∧ x22 < (Int.ofNat x20n)
        then (Option.bind (intOf? .i64 (AMem.ld M a_1.block (a_1.off + ((Int.toNat x22) * 4)))) fun x_2 =>
          (Option.bind (intOf? .u64 (AMem.ld M a_1.block ((a_1.off + ((Int.toNat x22) * 4)) + 1))) fun x_3 =>
          (Option.bind (intOf? .u64 (AMem.ld M a_1.block ((a_1.off + ((Int.toNat x22) * 4)) + 2))) fun x_4 =>
          (Option.bind (intOf? .u64 (AMem.ld M a_1.block ((a_1.off + ((Int.toNat x22) * 4)) + 3))) fun x_5 =>
          (Option.bind (AMem.wr (M ++ [AObj.cells [.int .i64 0, .int .u64 0, .int .u64 0, .int .u64 0] ⟨false, 0⟩]) (List.length M) 0 [.int .i64 x_2, .int .u64 x_3, .int .u64 x_4, .int .u64 x_5]) fun M_6 =>
          (Option.bind (intOf? .i64 (AMem.ld M_6 x3 0)) fun x_7 =>
          (Option.bind (intOf? .i64 (AMem.ld M_6 x3 1)) fun x_8 =>
          (Option.bind (intOf? .i64 (AMem.ld M_6 (List.length M) 0)) fun x_9 =>
          (Option.bind (L.call 38 [.agg #[.int .i64 x_7, .int .i64 x_8], .int .i64 x_9] []) fun r_10 =>
          (Option.bind (intOf? .i64 (some r_10.1)) fun x_11 =>
          (if (x_11 != x1) = true
          then some (.pointer none, M_6)
          else P13_32 L x1 x2 x2n x2c x3 x20 x20n x20c x21 x22 M_6)))))))))))
        else none)
      | none => none)
    else P13_33 L x1 x2 x2n x2c x3 M) := QP13_14_eq L b13_14 c13_32 c13_33 (hL b13_14) P13_14 (Classical.choose_spec XP13_14) P13_32 (Classical.choose_spec XP13_32) P13_33 (Classical.choose_spec XP13_33) x1 x2 x2n x2c x3 x20 x20n x20c x21 x22 M
theorem QP13_32_eq (L : Rec) (b13_14 c13_33 : ACode) (P13_14 : Rec → Int → (Option Addr) → Nat → Nat → Nat → (Option Addr) → Nat → Nat → Int → Int → AMem → Res) (hP13_14 : Eq P13_14 fun L x1 x2 x2n x2c x3 x20 x20n x20c x21 x22 M => L.loop b13_14 (blockK 0 (seqK (code L (.clear zl32 c13_33) (retK [.tmp 6])) (retK [.tmp 6]))) (s13_14 x1 x2 x2n x2c x3 x20 x20n x20c x21 x22 M) M) (P13_32 : Rec → Int → (Option Addr) → Nat → Nat → Nat → (Option Addr) → Nat → Nat → Int → Int → AMem → Res) (hP13_32 : Eq P13_32 fun L x1 x2 x2n x2c x3 x20 x20n x20c x21 x22 M => code L (.ops o13_32) (postK zl29 (loopK L b13_14 (blockK 0 (seqK (code L (.clear zl32 c13_33) (retK [.tmp 6])) (retK [.tmp 6]))))) (s13_32 x1 x2 x2n x2c x3 x20 x20n x20c x21 x22 M) M) (x1 : Int) (x2 : Option Addr) (x2n : Nat) (x2c : Nat) (x3 : Nat) (x20 : Option Addr) (x20n : Nat) (x20c : Nat) (x21 : Int) (x22 : Int) (M : AMem) : P13_32 L x1 x2 x2n x2c x3 x20 x20n x20c x21 x22 M =
  P13_14 L x1 x2 x2n x2c x3 x20 x20n x20c x21 (IntKind.wrap .i64 (x22 + 1)) M := by
  subst hP13_14; subst hP13_32; kernel_rfl
theorem P13_32_eq (L : Rec) (x1 : Int) (x2 : Option Addr) (x2n : Nat) (x2c : Nat) (x3 : Nat) (x20 : Option Addr) (x20n : Nat) (x20c : Nat) (x21 : Int) (x22 : Int) (M : AMem) : P13_32 L x1 x2 x2n x2c x3 x20 x20n x20c x21 x22 M =
  P13_14 L x1 x2 x2n x2c x3 x20 x20n x20c x21 (IntKind.wrap .i64 (x22 + 1)) M := QP13_32_eq L b13_14 c13_33 P13_14 (Classical.choose_spec XP13_14) P13_32 (Classical.choose_spec XP13_32) x1 x2 x2n x2c x3 x20 x20n x20c x21 x22 M
theorem G13_33 (L : Rec) (b13_39 c13_43 : ACode) (x1 : Int) (x2 : Option Addr) (x2n : Nat) (x2c : Nat) (x3 : Nat) (M : AMem) : code L (.seq (.ops o13_34) (.seq (.seq (.ops o13_37) (.block 2 (.clear zl30 (.rangeFunc (.tmp 40) [41] (.ops o13_40) b13_39)))) (.clear zl31 c13_43))) (retK [.tmp 6]) [junk, .int .i64 x1, .slice x2 x2n x2c, .pointer (some ⟨x3, 0, none⟩), junk, junk, .pointer none, junk, junk, junk, junk, junk, junk, junk, junk, junk, junk, junk, junk, junk, junk, junk, junk, junk, junk, junk, junk, junk, junk, junk, junk, junk, junk, junk, junk, junk, junk, junk, junk, junk, junk, .tuple #[], junk, junk, junk, junk, junk, junk, junk, junk, junk, junk, junk] M =
  (Option.bind (intOf? .i64 (AMem.ld M x3 0)) fun x_1 =>
    (Option.bind (intOf? .i64 (AMem.ld M x3 1)) fun x_2 =>
    (Option.bind (L.call 35 [.agg #[.int .i64 x_1, .int .i64 x_2]] []) fun r_3 =>
    (Option.bind (intOf? .i64 (some r_3.1)) fun x_4 =>
    (Option.bind (AMem.wr ((M ++ [AObj.cells [.int .i64 x_4, .slice none 0 0, .int .i64 0, .bool false, .int .u64 0, .int .i64 0] ⟨false, 0⟩]) ++ [AObj.cells [.pointer none] ⟨false, 0⟩]) (List.length (M ++ [AObj.cells [.int .i64 x_4, .slice none 0 0, .int .i64 0, .bool false, .int .u64 0, .int .i64 0] ⟨false, 0⟩])) 0 [.pointer (some ⟨(List.length M), 0, none⟩)]) fun M_5 =>
    (Option.bind (intOf? .i64 (AMem.ld M_5 x3 0)) fun x_6 =>
    (Option.bind (intOf? .i64 (AMem.ld M_5 x3 1)) fun x_7 =>
    (Option.bind (L.call 39 [.agg #[.int .i64 x_6, .int .i64 x_7], .int .i64 x1, .slice x2 x2n x2c] M_5) fun r_8 =>
    (Option.bind (anyOf? (some r_8.1)) fun u_9 =>
    (funK u_9 fun g_14 f_15 c_16 =>
    (Option.bind (L.call g_14 (f_15 ++ [.func (.yield (List.length r_8.2)) #[] #[]] ++ c_16) (r_8.2 ++ [AObj.loop ⟨.ready, none, [junk, junk, junk, junk, junk, junk, .pointer none, junk, junk, .pointer (some ⟨(List.length (M ++ [AObj.cells [.int .i64 x_4, .slice none 0 0, .int .i64 0, .bool false, .int .u64 0, .int .i64 0] ⟨false, 0⟩])), 0, none⟩), junk, junk, junk, junk, junk, junk, junk, junk, junk, junk, junk, junk, junk, junk, junk, junk, junk, junk, junk, junk, junk, junk, junk, junk, junk, junk, junk, junk, junk, junk, u_9, .tuple #[], junk, junk, junk, junk, junk, junk, junk, junk, junk, junk, junk], [41], .ops o13_40, b13_39⟩])) fun r_10 =>
    rangeK (List.length r_8.2) r_10 (fun M_12 =>
    code L c13_43 (retK [.tmp 6]) [junk, junk, junk, junk, junk, junk, junk, junk, junk, .pointer (some ⟨(List.length (M ++ [AObj.cells [.int .i64 x_4, .slice none 0 0, .int .i64 0, .bool false, .int .u64 0, .int .i64 0] ⟨false, 0⟩])), 0, none⟩), junk, junk, junk, junk, junk, junk, junk, junk, junk, junk, junk, junk, junk, junk, junk, junk, junk, junk, junk, junk, junk, junk, junk, junk, junk, junk, junk, junk, junk, junk, junk, junk, junk, junk, junk, junk, junk, junk, junk, junk, junk, junk, junk] M_12) (fun e_11 M_13 => (blockK 2 (seqK (code L (.clear zl31 c13_43) (retK [.tmp 6])) (retK [.tmp 6]))) e_11 [junk, junk, junk, junk, junk, junk, .pointer none, junk, junk, .pointer (some ⟨(List.length (M ++ [AObj.cells [.int .i64 x_4, .slice none 0 0, .int .i64 0, .bool false, .int .u64 0, .int .i64 0] ⟨false, 0⟩])), 0, none⟩), junk, junk, junk, junk, junk, junk, junk, junk, junk, junk, junk, junk, junk, junk, junk, junk, junk, junk, junk, junk, junk, junk, junk, junk, junk, junk, junk, junk, junk, junk, u_9, .tuple #[], junk, junk, junk, junk, junk, junk, junk, junk, junk, junk, junk] M_13)))))))))))) := by kernel_rfl
theorem QP13_33_eq (L : Rec) (P13_33 : Rec → Int → (Option Addr) → Nat → Nat → Nat → AMem → Res) (hP13_33 : P13_33 = fun (L : Rec) (x1 : Int) (x2 : Option Addr) (x2n : Nat) (x2c : Nat) (x3 : Nat) (M : AMem) => code L c13_33 (k13_33 L) (s13_33 x1 x2 x2n x2c x3 M) M) (P13_43 : Rec → Nat → AMem → Res) (hP13_43 : P13_43 = fun (L : Rec) (x9 : Nat) (M : AMem) => code L c13_43 (k13_43 L) (s13_43 x9 M) M) (x1 : Int) (x2 : Option Addr) (x2n : Nat) (x2c : Nat) (x3 : Nat) (M : AMem) : P13_33 L x1 x2 x2n x2c x3 M =
  (Option.bind (intOf? .i64 (AMem.ld M x3 0)) fun x_1 =>
    (Option.bind (intOf? .i64 (AMem.ld M x3 1)) fun x_2 =>
    (Option.bind (L.call 35 [.agg #[.int .i64 x_1, .int .i64 x_2]] []) fun r_3 =>
    (Option.bind (intOf? .i64 (some r_3.1)) fun x_4 =>
    (Option.bind (AMem.wr ((M ++ [AObj.cells [.int .i64 x_4, .slice none 0 0, .int .i64 0, .bool false, .int .u64 0, .int .i64 0] ⟨false, 0⟩]) ++ [AObj.cells [.pointer none] ⟨false, 0⟩]) (List.length (M ++ [AObj.cells [.int .i64 x_4, .slice none 0 0, .int .i64 0, .bool false, .int .u64 0, .int .i64 0] ⟨false, 0⟩])) 0 [.pointer (some ⟨(List.length M), 0, none⟩)]) fun M_5 =>
    (Option.bind (intOf? .i64 (AMem.ld M_5 x3 0)) fun x_6 =>
    (Option.bind (intOf? .i64 (AMem.ld M_5 x3 1)) fun x_7 =>
    (Option.bind (L.call 39 [.agg #[.int .i64 x_6, .int .i64 x_7], .int .i64 x1, .slice x2 x2n x2c] M_5) fun r_8 =>
    (Option.bind (anyOf? (some r_8.1)) fun u_9 =>
    (funK u_9 fun g_14 f_15 c_16 =>
    (Option.bind (L.call g_14 (f_15 ++ [.func (.yield (List.length r_8.2)) #[] #[]] ++ c_16) (r_8.2 ++ [AObj.loop (lo13_39 .ready none (List.length (M ++ [AObj.cells [.int .i64 x_4, .slice none 0 0, .int .i64 0, .bool false, .int .u64 0, .int .i64 0] ⟨false, 0⟩])) u_9)])) fun r_10 =>
    rangeK (List.length r_8.2) r_10 (fun M_12 =>
    P13_43 L (List.length (M ++ [AObj.cells [.int .i64 x_4, .slice none 0 0, .int .i64 0, .bool false, .int .u64 0, .int .i64 0] ⟨false, 0⟩])) M_12) (fun e_11 M_13 => (blockK 2 (seqK (code L (.clear zl31 c13_43) (retK [.tmp 6])) (retK [.tmp 6]))) e_11 [junk, junk, junk, junk, junk, junk, .pointer none, junk, junk, .pointer (some ⟨(List.length (M ++ [AObj.cells [.int .i64 x_4, .slice none 0 0, .int .i64 0, .bool false, .int .u64 0, .int .i64 0] ⟨false, 0⟩])), 0, none⟩), junk, junk, junk, junk, junk, junk, junk, junk, junk, junk, junk, junk, junk, junk, junk, junk, junk, junk, junk, junk, junk, junk, junk, junk, junk, junk, junk, junk, junk, junk, u_9, .tuple #[], junk, junk, junk, junk, junk, junk, junk, junk, junk, junk, junk] M_13)))))))))))) := by
  subst hP13_33; subst hP13_43; exact Eq.mp (by kernel_rfl) (G13_33 L b13_39 c13_43 x1 x2 x2n x2c x3 M)
theorem P13_33_eq (L : Rec) (x1 : Int) (x2 : Option Addr) (x2n : Nat) (x2c : Nat) (x3 : Nat) (M : AMem) : P13_33 L x1 x2 x2n x2c x3 M =
  (Option.bind (intOf? .i64 (AMem.ld M x3 0)) fun x_1 =>
    (Option.bind (intOf? .i64 (AMem.ld M x3 1)) fun x_2 =>
    (Option.bind (L.call 35 [.agg #[.int .i64 x_1, .int .i64 x_2]] []) fun r_3 =>
    (Option.bind (intOf? .i64 (some r_3.1)) fun x_4 =>
    (Option.bind (AMem.wr ((M ++ [AObj.cells [.int .i64 x_4, .slice none 0 0, .int .i64 0, .bool false, .int .u64 0, .int .i64 0] ⟨false, 0⟩]) ++ [AObj.cells [.pointer none] ⟨false, 0⟩]) (List.length (M ++ [AObj.cells [.int .i64 x_4, .slice none 0 0, .int .i64 0, .bool false, .int .u64 0, .int .i64 0] ⟨false, 0⟩])) 0 [.pointer (some ⟨(List.length M), 0, none⟩)]) fun M_5 =>
    (Option.bind (intOf? .i64 (AMem.ld M_5 x3 0)) fun x_6 =>
    (Option.bind (intOf? .i64 (AMem.ld M_5 x3 1)) fun x_7 =>
    (Option.bind (L.call 39 [.agg #[.int .i64 x_6, .int .i64 x_7], .int .i64 x1, .slice x2 x2n x2c] M_5) fun r_8 =>
    (Option.bind (anyOf? (some r_8.1)) fun u_9 =>
    (funK u_9 fun g_14 f_15 c_16 =>
    (Option.bind (L.call g_14 (f_15 ++ [.func (.yield (List.length r_8.2)) #[] #[]] ++ c_16) (r_8.2 ++ [AObj.loop (lo13_39 .ready none (List.length (M ++ [AObj.cells [.int .i64 x_4, .slice none 0 0, .int .i64 0, .bool false, .int .u64 0, .int .i64 0] ⟨false, 0⟩])) u_9)])) fun r_10 =>
    rangeK (List.length r_8.2) r_10 (fun M_12 =>
    P13_43 L (List.length (M ++ [AObj.cells [.int .i64 x_4, .slice none 0 0, .int .i64 0, .bool false, .int .u64 0, .int .i64 0] ⟨false, 0⟩])) M_12) (fun e_11 M_13 => (blockK 2 (seqK (code L (.clear zl31 c13_43) (retK [.tmp 6])) (retK [.tmp 6]))) e_11 [junk, junk, junk, junk, junk, junk, .pointer none, junk, junk, .pointer (some ⟨(List.length (M ++ [AObj.cells [.int .i64 x_4, .slice none 0 0, .int .i64 0, .bool false, .int .u64 0, .int .i64 0] ⟨false, 0⟩])), 0, none⟩), junk, junk, junk, junk, junk, junk, junk, junk, junk, junk, junk, junk, junk, junk, junk, junk, junk, junk, junk, junk, junk, junk, junk, junk, junk, junk, junk, junk, junk, junk, u_9, .tuple #[], junk, junk, junk, junk, junk, junk, junk, junk, junk, junk, junk] M_13)))))))))))) := QP13_33_eq L P13_33 (Classical.choose_spec XP13_33) P13_43 (Classical.choose_spec XP13_43) x1 x2 x2n x2c x3 M
theorem QP13_43_eq (L : Rec) (P13_43 : Rec → Nat → AMem → Res) (hP13_43 : Eq P13_43 fun L x9 M => code L (.seq (.ops o13_44) (.ret)) (retK [.tmp 6]) (s13_43 x9 M) M) (x9 : Nat) (M : AMem) : P13_43 L x9 M =
  (Option.bind (ptrOf? (AMem.ld M x9 0)) fun p_1 =>
    some (.pointer p_1, M)) := by
  subst hP13_43; kernel_rfl
theorem P13_43_eq (L : Rec) (x9 : Nat) (M : AMem) : P13_43 L x9 M =
  (Option.bind (ptrOf? (AMem.ld M x9 0)) fun p_1 =>
    some (.pointer p_1, M)) := QP13_43_eq L P13_43 (Classical.choose_spec XP13_43) x9 M
theorem QP13_39_eq (L : Rec) (P13_39 : Rec → Nat → Nat → Value → Int → Int → Nat → AMem → Res) (hP13_39 : Eq P13_39 fun L l x9 x40 y0_0 y0_1 z M => code L (.block 3 (.draw [] 0 o13_42 [(0, 6), (0, 7), (1, 6), (4, 6)])) (roundK l) (s13_39 l x9 x40 y0_0 y0_1 z M) M) (l : Nat) (x9 : Nat) (x40 : Value) (y0_0 : Int) (y0_1 : Int) (z : Nat) (M : AMem) : P13_39 L l x9 x40 y0_0 y0_1 z M =
  (Option.bind (ptrOf? (AMem.ld M x9 0)) fun p_2 =>
    (Option.bind (ptrOf? (AMem.ld M x9 0)) fun p_3 =>
    (match p_3 with
    | some a_4 => (Option.bind (sliceOf? (AMem.ld M a_4.block (a_4.off + 1))) fun s_5 =>
      (Option.bind (intOf? .i64 (AMem.ld M z 0)) fun x_6 =>
      (Option.bind (intOf? .u64 (AMem.ld M z 1)) fun x_7 =>
      (Option.bind (rowOf (M ++ [AObj.cells [.int .i64 x_6, .int .u64 x_7] ⟨false, 0⟩]) 2 (.slice (some ⟨(List.length M), 0, none⟩) 1 2)) fun row_8 =>
      (appendK 2 16 s_5.1 s_5.2.1 s_5.2.2 1 row_8 (M ++ [AObj.cells [.int .i64 x_6, .int .u64 x_7] ⟨false, 0⟩]) fun p_9 n_10 c_11 M_12 =>
      (match p_2 with
      | some a_13 => (Option.bind (AMem.wr M_12 a_13.block (a_13.off + 1) [.slice p_9 n_10 c_11]) fun M_14 =>
        (if chkOk [(0, 6), (0, 7), (1, 6), (4, 6)] [(4, a_4.block), (1, x9), (0, x9)] [(7, ((M ++ [AObj.cells [.int .i64 x_6, .int .u64 x_7] ⟨false, 0⟩]), M_12)), (6, (M, (M ++ [AObj.cells [.int .i64 x_6, .int .u64 x_7] ⟨false, 0⟩])))] = true
        then roundK l AExit.normal [] M_14
        else none))
      | none => none))))))
    | none => none))) := by
  subst hP13_39; kernel_rfl
theorem P13_39_eq (L : Rec) (l : Nat) (x9 : Nat) (x40 : Value) (y0_0 : Int) (y0_1 : Int) (z : Nat) (M : AMem) : P13_39 L l x9 x40 y0_0 y0_1 z M =
  (Option.bind (ptrOf? (AMem.ld M x9 0)) fun p_2 =>
    (Option.bind (ptrOf? (AMem.ld M x9 0)) fun p_3 =>
    (match p_3 with
    | some a_4 => (Option.bind (sliceOf? (AMem.ld M a_4.block (a_4.off + 1))) fun s_5 =>
      (Option.bind (intOf? .i64 (AMem.ld M z 0)) fun x_6 =>
      (Option.bind (intOf? .u64 (AMem.ld M z 1)) fun x_7 =>
      (Option.bind (rowOf (M ++ [AObj.cells [.int .i64 x_6, .int .u64 x_7] ⟨false, 0⟩]) 2 (.slice (some ⟨(List.length M), 0, none⟩) 1 2)) fun row_8 =>
      (appendK 2 16 s_5.1 s_5.2.1 s_5.2.2 1 row_8 (M ++ [AObj.cells [.int .i64 x_6, .int .u64 x_7] ⟨false, 0⟩]) fun p_9 n_10 c_11 M_12 =>
      (match p_2 with
      | some a_13 => (Option.bind (AMem.wr M_12 a_13.block (a_13.off + 1) [.slice p_9 n_10 c_11]) fun M_14 =>
        (if chkOk [(0, 6), (0, 7), (1, 6), (4, 6)] [(4, a_4.block), (1, x9), (0, x9)] [(7, ((M ++ [AObj.cells [.int .i64 x_6, .int .u64 x_7] ⟨false, 0⟩]), M_12)), (6, (M, (M ++ [AObj.cells [.int .i64 x_6, .int .u64 x_7] ⟨false, 0⟩])))] = true
        then roundK l AExit.normal [] M_14
        else none))
      | none => none))))))
    | none => none))) := QP13_39_eq L P13_39 (Classical.choose_spec XP13_39) l x9 x40 y0_0 y0_1 z M
theorem R13_39 (L : Rec) (hR : ∀ l args A, L.round l args A = roundF L l args A) (l : Nat) (x9 : Nat) (x40 : Value) (y0_0 : Int) (y0_1 : Int) (M : AMem) (pe : Option AExit) (hM : M[l]? = some (.loop (lo13_39 .ready pe x9 x40))) (M1 : AMem) (hw : AMem.wr (M ++ [AObj.cells [.int .i64 0, .int .u64 0] ⟨false, 0⟩]) (List.length M) 0 [.int .i64 y0_0, .int .u64 y0_1] = some M1) (hM1 : M1[l]? = some (.loop (lo13_39 .ready pe x9 x40))) : L.round l [.agg #[.int .i64 y0_0, .int .u64 y0_1]] M =
  P13_39 L l x9 x40 y0_0 y0_1 (List.length M) (M1.set l (.loop (lo13_39 .busy pe x9 x40))) := by
  rw [hR, roundF_wr hM rfl rfl hw hM1 (s13_39 l x9 x40 y0_0 y0_1 (List.length M) M) (fun K => by kernel_rfl)]; exact (congrFun (congrFun (congrFun (congrFun (congrFun (congrFun (congrFun (congrFun (Classical.choose_spec XP13_39) L) l) x9) x40) y0_0) y0_1) _) _).symm
theorem QE13 (L : Rec) (b13_14 c13_33 : ACode) (P13_14 : Rec → Int → (Option Addr) → Nat → Nat → Nat → (Option Addr) → Nat → Nat → Int → Int → AMem → Res) (hP13_14 : Eq P13_14 fun L x1 x2 x2n x2c x3 x20 x20n x20c x21 x22 M => L.loop b13_14 (blockK 0 (seqK (code L (.clear zl32 c13_33) (retK [.tmp 6])) (retK [.tmp 6]))) (s13_14 x1 x2 x2n x2c x3 x20 x20n x20c x21 x22 M) M) (x0_0 : Int) (x0_1 : Int) (x1 : Int) (x2 : Option Addr) (x2n : Nat) (x2c : Nat) (M : AMem) : enterF L ⟨53, [.tmp 6], .seq (.ops o13_1) (.seq (.seq (.ops o13_4) (.cond (.tmp 19) (.seq (.ops o13_7) (.ret)) (.skip))) (.seq (.seq (.ops o13_12) (.block 0 (.clear zl29 (.loop b13_14)))) (.clear zl32 c13_33)))⟩ [.agg #[.int .i64 x0_0, .int .i64 x0_1], .int .i64 x1, .slice x2 x2n x2c] M =
  (Option.bind (intOf? .i64 (AMem.ld (M ++ [AObj.cells [.int .i64 x0_0, .int .i64 x0_1] ⟨false, 0⟩]) (List.length M) 0)) fun x_1 =>
    (Option.bind (intOf? .i64 (AMem.ld (M ++ [AObj.cells [.int .i64 x0_0, .int .i64 x0_1] ⟨false, 0⟩]) (List.length M) 1)) fun x_2 =>
    (Option.bind (L.call 37 [.agg #[.int .i64 x_1, .int .i64 x_2], .int .i64 x1] []) fun r_3 =>
    (Option.bind (intOf? .i64 (some r_3.1)) fun x_4 =>
    (if (decide (x_4 < 0)) = true
    then some (.pointer none, (M ++ [AObj.cells [.int .i64 x0_0, .int .i64 x0_1] ⟨false, 0⟩]))
    else (if (decide ((Int.ofNat x2n) > 4096)) = true
      then some (.pointer none, (M ++ [AObj.cells [.int .i64 x0_0, .int .i64 x0_1] ⟨false, 0⟩]))
      else P13_14 L x1 x2 x2n x2c (List.length M) x2 x2n x2c (Int.ofNat x2n) 0 (M ++ [AObj.cells [.int .i64 x0_0, .int .i64 x0_1] ⟨false, 0⟩]))))))) := by
  subst hP13_14; kernel_rfl
theorem E13 (L : Rec) (x0_0 : Int) (x0_1 : Int) (x1 : Int) (x2 : Option Addr) (x2n : Nat) (x2c : Nat) (M : AMem) : enterF L a13 [.agg #[.int .i64 x0_0, .int .i64 x0_1], .int .i64 x1, .slice x2 x2n x2c] M =
  (Option.bind (intOf? .i64 (AMem.ld (M ++ [AObj.cells [.int .i64 x0_0, .int .i64 x0_1] ⟨false, 0⟩]) (List.length M) 0)) fun x_1 =>
    (Option.bind (intOf? .i64 (AMem.ld (M ++ [AObj.cells [.int .i64 x0_0, .int .i64 x0_1] ⟨false, 0⟩]) (List.length M) 1)) fun x_2 =>
    (Option.bind (L.call 37 [.agg #[.int .i64 x_1, .int .i64 x_2], .int .i64 x1] []) fun r_3 =>
    (Option.bind (intOf? .i64 (some r_3.1)) fun x_4 =>
    (if (decide (x_4 < 0)) = true
    then some (.pointer none, (M ++ [AObj.cells [.int .i64 x0_0, .int .i64 x0_1] ⟨false, 0⟩]))
    else (if (decide ((Int.ofNat x2n) > 4096)) = true
      then some (.pointer none, (M ++ [AObj.cells [.int .i64 x0_0, .int .i64 x0_1] ⟨false, 0⟩]))
      else P13_14 L x1 x2 x2n x2c (List.length M) x2 x2n x2c (Int.ofNat x2n) 0 (M ++ [AObj.cells [.int .i64 x0_0, .int .i64 x0_1] ⟨false, 0⟩]))))))) := QE13 L b13_14 c13_33 P13_14 (Classical.choose_spec XP13_14) x0_0 x0_1 x1 x2 x2n x2c M
/-! #### flush.adds -/
theorem E39 (L : Rec) (x0_0 : Int) (x0_1 : Int) (x1 : Int) (x2 : Option Addr) (x2n : Nat) (x2c : Nat) (M : AMem) : enterF L a39 [.agg #[.int .i64 x0_0, .int .i64 x0_1], .int .i64 x1, .slice x2 x2n x2c] M =
  some (.func (.func 55) #[] #[.pointer (some ⟨(List.length M), 0, none⟩), .pointer (some ⟨(List.length (M ++ [AObj.cells [.int .i64 x0_0, .int .i64 x0_1] ⟨false, 0⟩])), 0, none⟩), .pointer (some ⟨(List.length ((M ++ [AObj.cells [.int .i64 x0_0, .int .i64 x0_1] ⟨false, 0⟩]) ++ [AObj.cells [.int .i64 x1] ⟨false, 0⟩])), 0, none⟩)], (((M ++ [AObj.cells [.int .i64 x0_0, .int .i64 x0_1] ⟨false, 0⟩]) ++ [AObj.cells [.int .i64 x1] ⟨false, 0⟩]) ++ [AObj.cells [.slice x2 x2n x2c] ⟨false, 0⟩])) := by kernel_rfl
/-! #### flush.adds$1 -/
noncomputable def k55_10 (L : Rec) : KT := blockK 0 (seqK (code L (.clear zl70 c55_42) (retK [])) (retK []))
def s55_10 (x0 : Nat) (x1 : Nat) (x2 : Nat) (x16 : Option Addr) (x16n : Nat) (x16c : Nat) (x17 : Int) (x18 : Int) (M : AMem) : List Value := [.func (.yield x0) #[] #[], .pointer (some ⟨x1, 0, none⟩), .pointer (some ⟨x2, 0, none⟩), junk, junk, junk, junk, junk, junk, junk, junk, junk, junk, junk, junk, junk, .slice x16 x16n x16c, .int .i64 x17, .int .i64 x18, junk, junk, junk, junk, junk, junk, junk, junk, junk, junk, junk, junk, junk, junk, junk, junk, junk, junk, junk, junk, junk, junk, junk, junk, junk, junk, junk, junk, junk, junk, junk]
theorem XP55_10 : ∃ P : Rec → Nat → Nat → Nat → (Option Addr) → Nat → Nat → Int → Int → AMem → Res, P = fun (L : Rec) (x0 : Nat) (x1 : Nat) (x2 : Nat) (x16 : Option Addr) (x16n : Nat) (x16c : Nat) (x17 : Int) (x18 : Int) (M : AMem) => L.loop b55_10 (k55_10 L) (s55_10 x0 x1 x2 x16 x16n x16c x17 x18 M) M := ⟨_, rfl⟩
noncomputable def P55_10 : Rec → Nat → Nat → Nat → (Option Addr) → Nat → Nat → Int → Int → AMem → Res := Classical.choose XP55_10
noncomputable def k55_24 (L : Rec) : KT := blockK 2 (blockK 1 (seqK (code L (.clear zl69 c55_41) (postK zl69 (loopK L b55_10 (blockK 0 (seqK (code L (.clear zl70 c55_42) (retK [])) (retK [])))))) (postK zl69 (loopK L b55_10 (blockK 0 (seqK (code L (.clear zl70 c55_42) (retK [])) (retK [])))))))
def s55_24 (x0 : Nat) (x1 : Nat) (x2 : Nat) (x6 : Nat) (x16 : Option Addr) (x16n : Nat) (x16c : Nat) (x17 : Int) (x18 : Int) (x23_0 : Int) (x23_1 : Int) (x23_2 : Int) (x24 : Int) (M : AMem) : List Value := [.func (.yield x0) #[] #[], .pointer (some ⟨x1, 0, none⟩), .pointer (some ⟨x2, 0, none⟩), junk, junk, junk, .pointer (some ⟨x6, 0, none⟩), junk, junk, junk, junk, junk, junk, junk, junk, junk, .slice x16 x16n x16c, .int .i64 x17, .int .i64 x18, junk, junk, junk, junk, .agg #[.int .u64 x23_0, .int .u64 x23_1, .int .u64 x23_2], .int .i64 x24, junk, junk, junk, junk, junk, junk, junk, junk, junk, junk, junk, junk, junk, junk, junk, junk, junk, junk, junk, junk, junk, junk, junk, junk, junk]
theorem XP55_24 : ∃ P : Rec → Nat → Nat → Nat → Nat → (Option Addr) → Nat → Nat → Int → Int → Int → Int → Int → Int → AMem → Res, P = fun (L : Rec) (x0 : Nat) (x1 : Nat) (x2 : Nat) (x6 : Nat) (x16 : Option Addr) (x16n : Nat) (x16c : Nat) (x17 : Int) (x18 : Int) (x23_0 : Int) (x23_1 : Int) (x23_2 : Int) (x24 : Int) (M : AMem) => L.loop b55_24 (k55_24 L) (s55_24 x0 x1 x2 x6 x16 x16n x16c x17 x18 x23_0 x23_1 x23_2 x24 M) M := ⟨_, rfl⟩
noncomputable def P55_24 : Rec → Nat → Nat → Nat → Nat → (Option Addr) → Nat → Nat → Int → Int → Int → Int → Int → Int → AMem → Res := Classical.choose XP55_24
noncomputable def k55_42 (L : Rec) : KT := retK []
def s55_42 (x0 : Nat) (x1 : Nat) (x2 : Nat) (M : AMem) : List Value := [.func (.yield x0) #[] #[], .pointer (some ⟨x1, 0, none⟩), .pointer (some ⟨x2, 0, none⟩), junk, junk, junk, junk, junk, junk, junk, junk, junk, junk, junk, junk, junk, junk, junk, junk, junk, junk, junk, junk, junk, junk, junk, junk, junk, junk, junk, junk, junk, junk, junk, junk, junk, junk, junk, junk, junk, junk, junk, junk, junk, junk, junk, junk, junk, junk, junk]
theorem XP55_42 : ∃ P : Rec → Nat → Nat → Nat → AMem → Res, P = fun (L : Rec) (x0 : Nat) (x1 : Nat) (x2 : Nat) (M : AMem) => code L c55_42 (k55_42 L) (s55_42 x0 x1 x2 M) M := ⟨_, rfl⟩
noncomputable def P55_42 : Rec → Nat → Nat → Nat → AMem → Res := Classical.choose XP55_42
noncomputable def k55_40 (L : Rec) : KT := postK zl68 (loopK L b55_24 (blockK 2 (blockK 1 (seqK (code L (.clear zl69 c55_41) (postK zl69 (loopK L b55_10 (blockK 0 (seqK (code L (.clear zl70 c55_42) (retK [])) (retK [])))))) (postK zl69 (loopK L b55_10 (blockK 0 (seqK (code L (.clear zl70 c55_42) (retK [])) (retK [])))))))))
def s55_40 (x0 : Nat) (x1 : Nat) (x2 : Nat) (x6 : Nat) (x16 : Option Addr) (x16n : Nat) (x16c : Nat) (x17 : Int) (x18 : Int) (x23_0 : Int) (x23_1 : Int) (x23_2 : Int) (x24 : Int) (M : AMem) : List Value := [.func (.yield x0) #[] #[], .pointer (some ⟨x1, 0, none⟩), .pointer (some ⟨x2, 0, none⟩), junk, junk, junk, .pointer (some ⟨x6, 0, none⟩), junk, junk, junk, junk, junk, junk, junk, junk, junk, .slice x16 x16n x16c, .int .i64 x17, .int .i64 x18, junk, junk, junk, junk, .agg #[.int .u64 x23_0, .int .u64 x23_1, .int .u64 x23_2], .int .i64 x24, junk, junk, junk, junk, junk, junk, junk, junk, junk, junk, junk, junk, junk, junk, junk, junk, junk, junk, junk, junk, junk, junk, junk, junk, junk]
theorem XP55_40 : ∃ P : Rec → Nat → Nat → Nat → Nat → (Option Addr) → Nat → Nat → Int → Int → Int → Int → Int → Int → AMem → Res, P = fun (L : Rec) (x0 : Nat) (x1 : Nat) (x2 : Nat) (x6 : Nat) (x16 : Option Addr) (x16n : Nat) (x16c : Nat) (x17 : Int) (x18 : Int) (x23_0 : Int) (x23_1 : Int) (x23_2 : Int) (x24 : Int) (M : AMem) => code L c55_40 (k55_40 L) (s55_40 x0 x1 x2 x6 x16 x16n x16c x17 x18 x23_0 x23_1 x23_2 x24 M) M := ⟨_, rfl⟩
noncomputable def P55_40 : Rec → Nat → Nat → Nat → Nat → (Option Addr) → Nat → Nat → Int → Int → Int → Int → Int → Int → AMem → Res := Classical.choose XP55_40
noncomputable def k55_41 (L : Rec) : KT := postK zl69 (loopK L b55_10 (blockK 0 (seqK (code L (.clear zl70 c55_42) (retK [])) (retK []))))
def s55_41 (x0 : Nat) (x1 : Nat) (x2 : Nat) (x16 : Option Addr) (x16n : Nat) (x16c : Nat) (x17 : Int) (x18 : Int) (M : AMem) : List Value := [.func (.yield x0) #[] #[], .pointer (some ⟨x1, 0, none⟩), .pointer (some ⟨x2, 0, none⟩), junk, junk, junk, junk, junk, junk, junk, junk, junk, junk, junk, junk, junk, .slice x16 x16n x16c, .int .i64 x17, .int .i64 x18, junk, junk, junk, junk, junk, junk, junk, junk, junk, junk, junk, junk, junk, junk, junk, junk, junk, junk, junk, junk, junk, junk, junk, junk, junk, junk, junk, junk, junk, junk, junk]
theorem XP55_41 : ∃ P : Rec → Nat → Nat → Nat → (Option Addr) → Nat → Nat → Int → Int → AMem → Res, P = fun (L : Rec) (x0 : Nat) (x1 : Nat) (x2 : Nat) (x16 : Option Addr) (x16n : Nat) (x16c : Nat) (x17 : Int) (x18 : Int) (M : AMem) => code L c55_41 (k55_41 L) (s55_41 x0 x1 x2 x16 x16n x16c x17 x18 M) M := ⟨_, rfl⟩
noncomputable def P55_41 : Rec → Nat → Nat → Nat → (Option Addr) → Nat → Nat → Int → Int → AMem → Res := Classical.choose XP55_41
theorem QP55_10_eq (L : Rec) (b55_10 b55_24 c55_41 c55_42 : ACode) (hb : ∀ K t A, L.loop b55_10 K t A = code L (.post (.seq (.ops o55_12) (.seq (.cond (.tmp 19) (.skip) (.exit 0)) (.seq (.block 1 (.seq (.ops o55_20) (.seq (.ops o55_22) (.block 2 (.clear zl68 (.loop b55_24)))))) (.clear zl69 c55_41)))) zl69) (loopK L b55_10 K) t A) (P55_10 : Rec → Nat → Nat → Nat → (Option Addr) → Nat → Nat → Int → Int → AMem → Res) (hP55_10 : Eq P55_10 fun L x0 x1 x2 x16 x16n x16c x17 x18 M => L.loop b55_10 (blockK 0 (seqK (code L (.clear zl70 c55_42) (retK [])) (retK []))) (s55_10 x0 x1 x2 x16 x16n x16c x17 x18 M) M) (P55_24 : Rec → Nat → Nat → Nat → Nat → (Option Addr) → Nat → Nat → Int → Int → Int → Int → Int → Int → AMem → Res) (hP55_24 : Eq P55_24 fun L x0 x1 x2 x6 x16 x16n x16c x17 x18 x23_0 x23_1 x23_2 x24 M => L.loop b55_24 (blockK 2 (blockK 1 (seqK (code L (.clear zl69 c55_41) (postK zl69 (loopK L b55_10 (blockK 0 (seqK (code L (.clear zl70 c55_42) (retK [])) (retK [])))))) (postK zl69 (loopK L b55_10 (blockK 0 (seqK (code L (.clear zl70 c55_42) (retK [])) (retK [])))))))) (s55_24 x0 x1 x2 x6 x16 x16n x16c x17 x18 x23_0 x23_1 x23_2 x24 M) M) (P55_42 : Rec → Nat → Nat → Nat → AMem → Res) (hP55_42 : Eq P55_42 fun L x0 x1 x2 M => code L c55_42 (retK []) (s55_42 x0 x1 x2 M) M) (x0 : Nat) (x1 : Nat) (x2 : Nat) (x16 : Option Addr) (x16n : Nat) (x16c : Nat) (x17 : Int) (x18 : Int) (M : AMem) : P55_10 L x0 x1 x2 x16 x16n x16c x17 x18 M =
  (if (decide (x18 < x17)) = true
    then (match x16 with
      | some a_1 => (if (0 : Int) ≤ x18 ∧ x18 < (Int.ofNat x16n)
        then (Option.bind (intOf? .i64 (AMem.ld M a_1.block (a_1.off + ((Int.toNat x18) * 4)))) fun x_2 =>
          (Option.bind (intOf? .u64 (AMem.ld M a_1.block ((a_1.off + ((Int.toNat x18) * 4)) + 1))) fun x_3 =>
          (Option.bind (intOf? .u64 (AMem.ld M a_1.block ((a_1.off + ((Int.toNat x18) * 4)) + 2))) fun x_4 =>
          (Option.bind (intOf? .u64 (AMem.ld M a_1.block ((a_1.off + ((Int.toNat x18) * 4)) + 3))) fun x_5 =>
          (Option.bind (AMem.wr (M ++ [AObj.cells [.int .i64 0, .int .u64 0, .int .u64 0, .int .u64 0] ⟨false, 0⟩]) (List.length M) 0 [.int .i64 x_2, .int .u64 x_3, .int .u64 x_4, .int .u64 x_5]) fun M_6 =>
          (Option.bind (intOf? .u64 (AMem.ld M_6 (List.length M) 1)) fun x_7 =>
          (Option.bind (intOf? .u64 (AMem.ld M_6 (List.length M) 2)) fun x_8 =>
          (Option.bind (intOf? .u64 (AMem.ld M_6 (List.length M) 3)) fun x_9 =>
          P55_24 L x0 x1 x2 (List.length M) x16 x16n x16c x17 x18 x_7 x_8 x_9 0 M_6))))))))
        else none)
      | none => none)
    else P55_42 L x0 x1 x2 M) := by
  subst hP55_10; subst hP55_24; subst hP55_42; exact (hb (blockK 0 (seqK (code L (.clear zl70 c55_42) (retK [])) (retK []))) (s55_10 x0 x1 x2 x16 x16n x16c x17 x18 M) M).trans (by kernel_rfl)
theorem P55_10_eq (L : Rec) (hL : ∀ b K t A, L.loop b K t A = code L b (loopK L b K) t A) (x0 : Nat) (x1 : Nat) (x2 : Nat) (x16 : Option Addr) (x16n : Nat) (x16c : Nat) (x17 : Int) (x18 : Int) (M : AMem) : P55_10 L x0 x1 x2 x16 x16n x16c x17 x18 M =
  (if (decide (x18 < x17)) = true
    then (match x16 with
      | some a_1 => (if (0 : Int) ≤ x18 ∧ x18 < (Int.ofNat x16n)
        then (Option.bind (intOf? .i64 (AMem.ld M a_1.block (a_1.off + ((Int.toNat x18) * 4)))) fun x_2 =>
          (Option.bind (intOf? .u64 (AMem.ld M a_1.block ((a_1.off + ((Int.toNat x18) * 4)) + 1))) fun x_3 =>
          (Option.bind (intOf? .u64 (AMem.ld M a_1.block ((a_1.off + ((Int.toNat x18) * 4)) + 2))) fun x_4 =>
          (Option.bind (intOf? .u64 (AMem.ld M a_1.block ((a_1.off + ((Int.toNat x18) * 4)) + 3))) fun x_5 =>
          (Option.bind (AMem.wr (M ++ [AObj.cells [.int .i64 0, .int .u64 0, .int .u64 0, .int .u64 0] ⟨false, 0⟩]) (List.length M) 0 [.int .i64 x_2, .int .u64 x_3, .int .u64 x_4, .int .u64 x_5]) fun M_6 =>
          (Option.bind (intOf? .u64 (AMem.ld M_6 (List.length M) 1)) fun x_7 =>
          (Option.bind (intOf? .u64 (AMem.ld M_6 (List.length M) 2)) fun x_8 =>
          (Option.bind (intOf? .u64 (AMem.ld M_6 (List.length M) 3)) fun x_9 =>
          P55_24 L x0 x1 x2 (List.length M) x16 x16n x16c x17 x18 x_7 x_8 x_9 0 M_6))))))))
        else none)
      | none => none)
    else P55_42 L x0 x1 x2 M) := QP55_10_eq L b55_10 b55_24 c55_41 c55_42 (hL b55_10) P55_10 (Classical.choose_spec XP55_10) P55_24 (Classical.choose_spec XP55_24) P55_42 (Classical.choose_spec XP55_42) x0 x1 x2 x16 x16n x16c x17 x18 M
theorem QP55_24_eq (L : Rec) (b55_10 b55_24 c55_40 c55_41 c55_42 : ACode) (hb : ∀ K t A, L.loop b55_24 K t A = code L (.post (.seq (.ops o55_26) (.seq (.cond (.tmp 25) (.skip) (.exit 2)) (.seq (.block 3 (.seq (.ops o55_34) (.seq (.ops o55_36) (.cond (.tmp 41) (.ret) (.skip))))) (.clear zl68 c55_40)))) zl68) (loopK L b55_24 K) t A) (P55_24 : Rec → Nat → Nat → Nat → Nat → (Option Addr) → Nat → Nat → Int → Int → Int → Int → Int → Int → AMem → Res) (hP55_24 : Eq P55_24 fun L x0 x1 x2 x6 x16 x16n x16c x17 x18 x23_0 x23_1 x23_2 x24 M => L.loop b55_24 (blockK 2 (blockK 1 (seqK (code L (.clear zl69 c55_41) (postK zl69 (loopK L b55_10 (blockK 0 (seqK (code L (.clear zl70 c55_42) (retK [])) (retK [])))))) (postK zl69 (loopK L b55_10 (blockK 0 (seqK (code L (.clear zl70 c55_42) (retK [])) (retK [])))))))) (s55_24 x0 x1 x2 x6 x16 x16n x16c x17 x18 x23_0 x23_1 x23_2 x24 M) M) (P55_40 : Rec → Nat → Nat → Nat → Nat → (Option Addr) → Nat → Nat → Int → Int → Int → Int → Int → Int → AMem → Res) (hP55_40 : Eq P55_40 fun L x0 x1 x2 x6 x16 x16n x16c x17 x18 x23_0 x23_1 x23_2 x24 M => code L c55_40 (postK zl68 (loopK L b55_24 (blockK 2 (blockK 1 (seqK (code L (.clear zl69 c55_41) (postK zl69 (loopK L b55_10 (blockK 0 (seqK (code L (.clear zl70 c55_42) (retK [])) (retK [])))))) (postK zl69 (loopK L b55_10 (blockK 0 (seqK (code L (.clear zl70 c55_42) (retK [])) (retK [])))))))))) (s55_40 x0 x1 x2 x6 x16 x16n x16c x17 x18 x23_0 x23_1 x23_2 x24 M) M) (P55_41 : Rec → Nat → Nat → Nat → (Option Addr) → Nat → Nat → Int → Int → AMem → Res) (hP55_41 : Eq P55_41 fun L x0 x1 x2 x16 x16n x16c x17 x18 M => code L c55_41 (postK zl69 (loopK L b55_10 (blockK 0 (seqK (code L (.clear zl70 c55_42) (retK [])) (retK []))))) (s55_41 x0 x1 x2 x16 x16n x16c x17 x18 M) M) (x0 : Nat) (x1 : Nat) (x2 : Nat) (x6 : Nat) (x16 : Option Addr) (x16n : Nat) (x16c : Nat) (x17 : Int) (x18 : Int) (x23_0 : Int) (x23_1 : Int) (x23_2 : Int) (x24 : Int) (M : AMem) : P55_24 L x0 x1 x2 x6 x16 x16n x16c x17 x18 x23_0 x23_1 x23_2 x24 M =
  (if (decide (x24 < 3)) = true
    then (if (0 : Int) ≤ x24 ∧ x24 < 3
      then (Option.bind (([x23_0, x23_1, x23_2] : List Int)[((Int.toNat x24) * 1)]?) fun x_1 =>
        (if (x_1 != 0) = true
        then (Option.bind (intOf? .i64 (AMem.ld M x1 0)) fun x_2 =>
          (Option.bind (intOf? .i64 (AMem.ld M x1 1)) fun x_3 =>
          (Option.bind (intOf? .i64 (AMem.ld M x6 0)) fun x_4 =>
          (Option.bind (L.call 56 [.agg #[.int .i64 x_2, .int .i64 x_3], .int .i64 x_4, .int .i64 x24] []) fun r_5 =>
          (Option.bind (intOf? .i64 (some r_5.1)) fun x_6 =>
          (Option.bind (L.round x0 [.agg #[.int .i64 x_6, .int .u64 x_1]] M) fun r_7 =>
          (Option.bind (boolOf? (some r_7.1)) fun q_8 =>
          (if (!q_8) = true
          then some (.tuple #[], r_7.2)
          else P55_40 L x0 x1 x2 x6 x16 x16n x16c x17 x18 x23_0 x23_1 x23_2 x24 r_7.2))))))))
        else P55_40 L x0 x1 x2 x6 x16 x16n x16c x17 x18 x23_0 x23_1 x23_2 x24 M))
      else none)
    else P55_41 L x0 x1 x2 x16 x16n x16c x17 x18 M) := by
  subst hP55_24; subst hP55_40; subst hP55_41; exact (hb (blockK 2 (blockK 1 (seqK (code L (.clear zl69 c55_41) (postK zl69 (loopK L b55_10 (blockK 0 (seqK (code L (.clear zl70 c55_42) (retK [])) (retK [])))))) (postK zl69 (loopK L b55_10 (blockK 0 (seqK (code L (.clear zl70 c55_42) (retK [])) (retK [])))))))) (s55_24 x0 x1 x2 x6 x16 x16n x16c x17 x18 x23_0 x23_1 x23_2 x24 M) M).trans (by kernel_rfl)
theorem P55_24_eq (L : Rec) (hL : ∀ b K t A, L.loop b K t A = code L b (loopK L b K) t A) (x0 : Nat) (x1 : Nat) (x2 : Nat) (x6 : Nat) (x16 : Option Addr) (x16n : Nat) (x16c : Nat) (x17 : Int) (x18 : Int) (x23_0 : Int) (x23_1 : Int) (x23_2 : Int) (x24 : Int) (M : AMem) : P55_24 L x0 x1 x2 x6 x16 x16n x16c x17 x18 x23_0 x23_1 x23_2 x24 M =
  (if (decide (x24 < 3)) = true
    then (if (0 : Int) ≤ x24 ∧ x24 < 3
      then (Option.bind (([x23_0, x23_1, x23_2] : List Int)[((Int.toNat x24) * 1)]?) fun x_1 =>
        (if (x_1 != 0) = true
        then (Option.bind (intOf? .i64 (AMem.ld M x1 0)) fun x_2 =>
          (Option.bind (intOf? .i64 (AMem.ld M x1 1)) fun x_3 =>
          (Option.bind (intOf? .i64 (AMem.ld M x6 0)) fun x_4 =>
          (Option.bind (L.call 56 [.agg #[.int .i64 x_2, .int .i64 x_3], .int .i64 x_4, .int .i64 x24] []) fun r_5 =>
          (Option.bind (intOf? .i64 (some r_5.1)) fun x_6 =>
          (Option.bind (L.round x0 [.agg #[.int .i64 x_6, .int .u64 x_1]] M) fun r_7 =>
          (Option.bind (boolOf? (some r_7.1)) fun q_8 =>
          (if (!q_8) = true
          then some (.tuple #[], r_7.2)
          else P55_40 L x0 x1 x2 x6 x16 x16n x16c x17 x18 x23_0 x23_1 x23_2 x24 r_7.2))))))))
        else P55_40 L x0 x1 x2 x6 x16 x16n x16c x17 x18 x23_0 x23_1 x23_2 x24 M))
      else none)
    else P55_41 L x0 x1 x2 x16 x16n x16c x17 x18 M) := QP55_24_eq L b55_10 b55_24 c55_40 c55_41 c55_42 (hL b55_24) P55_24 (Classical.choose_spec XP55_24) P55_40 (Classical.choose_spec XP55_40) P55_41 (Classical.choose_spec XP55_41) x0 x1 x2 x6 x16 x16n x16c x17 x18 x23_0 x23_1 x23_2 x24 M
theorem QP55_42_eq (L : Rec) (P55_42 : Rec → Nat → Nat → Nat → AMem → Res) (hP55_42 : Eq P55_42 fun L x0 x1 x2 M => code L (.ops o55_42) (retK []) (s55_42 x0 x1 x2 M) M) (x0 : Nat) (x1 : Nat) (x2 : Nat) (M : AMem) : P55_42 L x0 x1 x2 M =
  (Option.bind (intOf? .i64 (AMem.ld M x1 0)) fun x_1 =>
    (Option.bind (intOf? .i64 (AMem.ld M x1 1)) fun x_2 =>
    (Option.bind (intOf? .i64 (AMem.ld M x2 0)) fun x_3 =>
    (Option.bind (L.call 57 [.agg #[.int .i64 x_1, .int .i64 x_2], .int .i64 x_3] []) fun r_4 =>
    (Option.bind (intOf? .i64 (some r_4.1)) fun x_5 =>
    (Option.bind (L.round x0 [.agg #[.int .i64 x_5, .int .u64 1]] M) fun r_6 =>
    (Option.bind (boolOf? (some r_6.1)) fun q_7 =>
    some (.tuple #[], r_6.2)))))))) := by
  subst hP55_42; kernel_rfl
theorem P55_42_eq (L : Rec) (x0 : Nat) (x1 : Nat) (x2 : Nat) (M : AMem) : P55_42 L x0 x1 x2 M =
  (Option.bind (intOf? .i64 (AMem.ld M x1 0)) fun x_1 =>
    (Option.bind (intOf? .i64 (AMem.ld M x1 1)) fun x_2 =>
    (Option.bind (intOf? .i64 (AMem.ld M x2 0)) fun x_3 =>
    (Option.bind (L.call 57 [.agg #[.int .i64 x_1, .int .i64 x_2], .int .i64 x_3] []) fun r_4 =>
    (Option.bind (intOf? .i64 (some r_4.1)) fun x_5 =>
    (Option.bind (L.round x0 [.agg #[.int .i64 x_5, .int .u64 1]] M) fun r_6 =>
    (Option.bind (boolOf? (some r_6.1)) fun q_7 =>
    some (.tuple #[], r_6.2)))))))) := QP55_42_eq L P55_42 (Classical.choose_spec XP55_42) x0 x1 x2 M
theorem QP55_40_eq (L : Rec) (b55_10 b55_24 c55_41 c55_42 : ACode) (P55_24 : Rec → Nat → Nat → Nat → Nat → (Option Addr) → Nat → Nat → Int → Int → Int → Int → Int → Int → AMem → Res) (hP55_24 : Eq P55_24 fun L x0 x1 x2 x6 x16 x16n x16c x17 x18 x23_0 x23_1 x23_2 x24 M => L.loop b55_24 (blockK 2 (blockK 1 (seqK (code L (.clear zl69 c55_41) (postK zl69 (loopK L b55_10 (blockK 0 (seqK (code L (.clear zl70 c55_42) (retK [])) (retK [])))))) (postK zl69 (loopK L b55_10 (blockK 0 (seqK (code L (.clear zl70 c55_42) (retK [])) (retK [])))))))) (s55_24 x0 x1 x2 x6 x16 x16n x16c x17 x18 x23_0 x23_1 x23_2 x24 M) M) (P55_40 : Rec → Nat → Nat → Nat → Nat → (Option Addr) → Nat → Nat → Int → Int → Int → Int → Int → Int → AMem → Res) (hP55_40 : Eq P55_40 fun L x0 x1 x2 x6 x16 x16n x16c x17 x18 x23_0 x23_1 x23_2 x24 M => code L (.ops o55_40) (postK zl68 (loopK L b55_24 (blockK 2 (blockK 1 (seqK (code L (.clear zl69 c55_41) (postK zl69 (loopK L b55_10 (blockK 0 (seqK (code L (.clear zl70 c55_42) (retK [])) (retK [])))))) (postK zl69 (loopK L b55_10 (blockK 0 (seqK (code L (.clear zl70 c55_42) (retK [])) (retK [])))))))))) (s55_40 x0 x1 x2 x6 x16 x16n x16c x17 x18 x23_0 x23_1 x23_2 x24 M) M) (x0 : Nat) (x1 : Nat) (x2 : Nat) (x6 : Nat) (x16 : Option Addr) (x16n : Nat) (x16c : Nat) (x17 : Int) (x18 : Int) (x23_0 : Int) (x23_1 : Int) (x23_2 : Int) (x24 : Int) (M : AMem) : P55_40 L x0 x1 x2 x6 x16 x16n x16c x17 x18 x23_0 x23_1 x23_2 x24 M =
  P55_24 L x0 x1 x2 x6 x16 x16n x16c x17 x18 x23_0 x23_1 x23_2 (IntKind.wrap .i64 (x24 + 1)) M := by
  subst hP55_24; subst hP55_40; kernel_rfl
theorem P55_40_eq (L : Rec) (x0 : Nat) (x1 : Nat) (x2 : Nat) (x6 : Nat) (x16 : Option Addr) (x16n : Nat) (x16c : Nat) (x17 : Int) (x18 : Int) (x23_0 : Int) (x23_1 : Int) (x23_2 : Int) (x24 : Int) (M : AMem) : P55_40 L x0 x1 x2 x6 x16 x16n x16c x17 x18 x23_0 x23_1 x23_2 x24 M =
  P55_24 L x0 x1 x2 x6 x16 x16n x16c x17 x18 x23_0 x23_1 x23_2 (IntKind.wrap .i64 (x24 + 1)) M := QP55_40_eq L b55_10 b55_24 c55_41 c55_42 P55_24 (Classical.choose_spec XP55_24) P55_40 (Classical.choose_spec XP55_40) x0 x1 x2 x6 x16 x16n x16c x17 x18 x23_0 x23_1 x23_2 x24 M
theorem QP55_41_eq (L : Rec) (b55_10 c55_42 : ACode) (P55_10 : Rec → Nat → Nat → Nat → (Option Addr) → Nat → Nat → Int → Int → AMem → Res) (hP55_10 : Eq P55_10 fun L x0 x1 x2 x16 x16n x16c x17 x18 M => L.loop b55_10 (blockK 0 (seqK (code L (.clear zl70 c55_42) (retK [])) (retK []))) (s55_10 x0 x1 x2 x16 x16n x16c x17 x18 M) M) (P55_41 : Rec → Nat → Nat → Nat → (Option Addr) → Nat → Nat → Int → Int → AMem → Res) (hP55_41 : Eq P55_41 fun L x0 x1 x2 x16 x16n x16c x17 x18 M => code L (.ops o55_41) (postK zl69 (loopK L b55_10 (blockK 0 (seqK (code L (.clear zl70 c55_42) (retK [])) (retK []))))) (s55_41 x0 x1 x2 x16 x16n x16c x17 x18 M) M) (x0 : Nat) (x1 : Nat) (x2 : Nat) (x16 : Option Addr) (x16n : Nat) (x16c : Nat) (x17 : Int) (x18 : Int) (M : AMem) : P55_41 L x0 x1 x2 x16 x16n x16c x17 x18 M =
  P55_10 L x0 x1 x2 x16 x16n x16c x17 (IntKind.wrap .i64 (x18 + 1)) M := by
  subst hP55_10; subst hP55_41; kernel_rfl
theorem P55_41_eq (L : Rec) (x0 : Nat) (x1 : Nat) (x2 : Nat) (x16 : Option Addr) (x16n : Nat) (x16c : Nat) (x17 : Int) (x18 : Int) (M : AMem) : P55_41 L x0 x1 x2 x16 x16n x16c x17 x18 M =
  P55_10 L x0 x1 x2 x16 x16n x16c x17 (IntKind.wrap .i64 (x18 + 1)) M := QP55_41_eq L b55_10 c55_42 P55_10 (Classical.choose_spec XP55_10) P55_41 (Classical.choose_spec XP55_41) x0 x1 x2 x16 x16n x16c x17 x18 M
theorem QE55 (L : Rec) (b55_10 c55_42 : ACode) (P55_10 : Rec → Nat → Nat → Nat → (Option Addr) → Nat → Nat → Int → Int → AMem → Res) (hP55_10 : Eq P55_10 fun L x0 x1 x2 x16 x16n x16c x17 x18 M => L.loop b55_10 (blockK 0 (seqK (code L (.clear zl70 c55_42) (retK [])) (retK []))) (s55_10 x0 x1 x2 x16 x16n x16c x17 x18 M) M) (x0 : Nat) (x1 : Nat) (x2 : Nat) (x3 : Nat) (M : AMem) : enterF L ⟨50, [], .seq (.seq (.ops o55_2) (.cond (.tmp 15) (.ret) (.skip))) (.seq (.seq (.ops o55_8) (.block 0 (.clear zl69 (.loop b55_10)))) (.clear zl70 c55_42))⟩ [.func (.yield x0) #[] #[], .pointer (some ⟨x1, 0, none⟩), .pointer (some ⟨x2, 0, none⟩), .pointer (some ⟨x3, 0, none⟩)] M =
  (Option.bind (intOf? .i64 (AMem.ld M x1 0)) fun x_1 =>
    (Option.bind (intOf? .i64 (AMem.ld M x1 1)) fun x_2 =>
    (Option.bind (intOf? .i64 (AMem.ld M x2 0)) fun x_3 =>
    (Option.bind (L.call 37 [.agg #[.int .i64 x_1, .int .i64 x_2], .int .i64 x_3] []) fun r_4 =>
    (Option.bind (intOf? .i64 (some r_4.1)) fun x_5 =>
    (Option.bind (L.round x0 [.agg #[.int .i64 x_5, .int .u64 1]] M) fun r_6 =>
    (Option.bind (boolOf? (some r_6.1)) fun q_7 =>
    (if (!q_7) = true
    then some (.tuple #[], r_6.2)
    else (Option.bind (sliceOf? (AMem.ld r_6.2 x3 0)) fun s_8 =>
      P55_10 L x0 x1 x2 s_8.1 s_8.2.1 s_8.2.2 (Int.ofNat s_8.2.1) 0 r_6.2))))))))) := by
  subst hP55_10; kernel_rfl
theorem E55 (L : Rec) (x0 : Nat) (x1 : Nat) (x2 : Nat) (x3 : Nat) (M : AMem) : enterF L a55 [.func (.yield x0) #[] #[], .pointer (some ⟨x1, 0, none⟩), .pointer (some ⟨x2, 0, none⟩), .pointer (some ⟨x3, 0, none⟩)] M =
  (Option.bind (intOf? .i64 (AMem.ld M x1 0)) fun x_1 =>
    (Option.bind (intOf? .i64 (AMem.ld M x1 1)) fun x_2 =>
    (Option.bind (intOf? .i64 (AMem.ld M x2 0)) fun x_3 =>
    (Option.bind (L.call 37 [.agg #[.int .i64 x_1, .int .i64 x_2], .int .i64 x_3] []) fun r_4 =>
    (Option.bind (intOf? .i64 (some r_4.1)) fun x_5 =>
    (Option.bind (L.round x0 [.agg #[.int .i64 x_5, .int .u64 1]] M) fun r_6 =>
    (Option.bind (boolOf? (some r_6.1)) fun q_7 =>
    (if (!q_7) = true
    then some (.tuple #[], r_6.2)
    else (Option.bind (sliceOf? (AMem.ld r_6.2 x3 0)) fun s_8 =>
      P55_10 L x0 x1 x2 s_8.1 s_8.2.1 s_8.2.2 (Int.ofNat s_8.2.1) 0 r_6.2))))))))) := QE55 L b55_10 c55_42 P55_10 (Classical.choose_spec XP55_10) x0 x1 x2 x3 M
/-! #### flush.Flush.Left -/
theorem E45 (L : Rec) (x0 : Option Addr) (M : AMem) : enterF L a45 [.pointer x0] M =
  (if (Option.isNone x0) = true
    then some (.int .i64 0, M)
    else (match x0 with
      | some a_1 => (Option.bind (sliceOf? (AMem.ld M a_1.block (a_1.off + 1))) fun s_2 =>
        (match x0 with
        | some a_3 => (Option.bind (intOf? .i64 (AMem.ld M a_3.block (a_3.off + 2))) fun x_4 =>
          some (.int .i64 (IntKind.wrap .i64 ((Int.ofNat s_2.2.1) - x_4)), M))
        | none => none))
      | none => none)) := by kernel_rfl
/-! #### flush.Flush.Step -/
noncomputable def k18_36 (L : Rec) : KT := retK [.tmp 4]
def s18_36 (M : AMem) : List Value := [junk, junk, junk, junk, junk, junk, junk, junk, junk, junk, junk, junk, junk, junk, junk, junk, junk, junk, junk, junk, junk, junk, junk, junk, junk, junk, junk, junk, junk, junk, junk, junk, junk, junk, junk, junk, junk, junk, junk, junk, junk, junk, junk, junk, junk, junk, junk, junk, junk, junk, junk, junk, junk, junk, junk, junk, junk, junk, junk, junk, junk, junk, junk, junk, junk, junk, junk, junk, junk, junk, junk, junk, junk, junk, junk, junk, junk, junk]
theorem XP18_36 : ∃ P : Rec → AMem → Res, P = fun (L : Rec) (M : AMem) => code L c18_36 (k18_36 L) (s18_36 M) M := ⟨_, rfl⟩
noncomputable def P18_36 : Rec → AMem → Res := Classical.choose XP18_36
theorem QP18_36_eq (L : Rec) (P18_36 : Rec → AMem → Res) (hP18_36 : Eq P18_36 fun L M => code L (.seq (.ops o18_37) (.ret)) (retK [.tmp 4]) (s18_36 M) M) (M : AMem) : P18_36 L M =
  some (.bool true, M) := by
  subst hP18_36; kernel_rfl
theorem P18_36_eq (L : Rec) (M : AMem) : P18_36 L M =
  some (.bool true, M) := QP18_36_eq L P18_36 (Classical.choose_spec XP18_36) M
theorem QE18 (L : Rec) (c18_36 : ACode) (P18_36 : Rec → AMem → Res) (hP18_36 : Eq P18_36 fun L M => code L c18_36 (retK [.tmp 4]) (s18_36 M) M) (x0 : Option Addr) (x1 : Option Addr) (M : AMem) : enterF L ⟨78, [.tmp 4], .seq (.ops o18_1) (.seq (.seq (.draw [] 0 o18_4 [(9, 5)]) (.cond (.tmp 17) (.seq (.ops o18_7) (.ret)) (.skip))) (.seq (.draw [] 0 o18_11 [(3, 10), (7, 10), (9, 10)]) (.seq (.seq (.ops o18_14) (.cond (.tmp 32) (.seq (.ops o18_17) (.seq (.ops o18_19) (.ret))) (.skip))) (.seq (.ops o18_23) (.seq (.seq (.draw [] 0 o18_26 []) (.cond (.tmp 63) (.seq (.ops o18_29) (.seq (.ops o18_31) (.ret))) (.skip))) (.seq (.ops o18_35) (.clear zl38 c18_36)))))))⟩ [.pointer x0, .pointer x1] M =
  (Option.bind (L.call 45 [.pointer x0] M) fun r_1 =>
    (Option.bind (intOf? .i64 (some r_1.1)) fun x_2 =>
    (if (x_2 == 0) = true
    then some (.bool false, r_1.2)
    else (Option.bind (L.call 41 [.pointer x1] r_1.2) fun r_3 =>
      (Option.bind (intOf? .i64 (some r_3.1)) fun x_4 =>
      (match x0 with
      | some a_5 => (Option.bind (intOf? .i64 (AMem.ld r_3.2 a_5.block a_5.off)) fun x_6 =>
        (if chkOk [(9, 5)] [(9, a_5.block)] [(5, (r_1.2, r_3.2))] = true
        then (if (x_4 != x_6) = true
          then some (.bool false, r_3.2)
          else (match x0 with
            | some a_7 => (Option.bind (sliceOf? (AMem.ld r_3.2 a_7.block (a_7.off + 1))) fun s_8 =>
              (match x0 with
              | some a_9 => (Option.bind (intOf? .i64 (AMem.ld r_3.2 a_9.block (a_9.off + 2))) fun x_10 =>
                (match s_8.1 with
                | some a_11 => (if (0 : Int) ≤ x_10 ∧ x_10 < (Int.ofNat s_8.2.1)
                  then (Option.bind (intOf? .i64 (AMem.ld r_3.2 a_11.block (a_11.off + ((Int.toNat x_10) * 2)))) fun x_12 =>
                    (Option.bind (intOf? .u64 (AMem.ld r_3.2 a_11.block ((a_11.off + ((Int.toNat x_10) * 2)) + 1))) fun x_13 =>
                    (Option.bind (AMem.wr (r_3.2 ++ [AObj.cells [.int .i64 0, .int .u64 0] ⟨false, 0⟩]) (List.length r_3.2) 0 [.int .i64 x_12, .int .u64 x_13]) fun M_14 =>
                    (if chkOk [(3, 10), (7, 10), (9, 10)] [(9, a_11.block), (7, a_9.block), (3, a_7.block)] [(10, (r_3.2, (r_3.2 ++ [AObj.cells [.int .i64 0, .int .u64 0] ⟨false, 0⟩])))] = true
                    then (match x0 with
                      | some a_15 => (Option.bind (boolOf? (AMem.ld M_14 a_15.block (a_15.off + 3))) fun q_16 =>
                        (if (!q_16) = true
                        then (Option.bind (intOf? .i64 (AMem.ld M_14 (List.length r_3.2) 0)) fun x_17 =>
                          (Option.bind (L.call 43 [.pointer x1, .int .i64 x_17] M_14) fun r_18 =>
                          (Option.bind (tupOf? 2 r_18.1) fun cs_19 =>
                          (Option.bind (cs_19[0]?) fun u_20 =>
                          (Option.bind (intOf? .u64 (some u_20)) fun x_21 =>
                          (Option.bind (cs_19[1]?) fun u_22 =>
                          (Option.bind (boolOf? (some u_22)) fun q_23 =>
                          (match x0 with
                          | some a_24 => (Option.bind (AMem.wr r_18.2 a_24.block (a_24.off + 4) [.int .u64 x_21]) fun M_25 =>
                            (match x0 with
                            | some a_26 => (Option.bind (AMem.wr M_25 a_26.block (a_26.off + 3) [.bool q_23]) fun M_27 =>
                              some (.bool true, M_27))
                            | none => none))
                          | none => none))))))))
                        else (match x0 with
                          | some a_28 => (Option.bind (AMem.wr M_14 a_28.block (a_28.off + 3) [.bool false]) fun M_29 =>
                            (Option.bind (intOf? .i64 (AMem.ld M_29 (List.length r_3.2) 0)) fun x_30 =>
                            (match x0 with
                            | some a_31 => (Option.bind (intOf? .u64 (AMem.ld M_29 a_31.block (a_31.off + 4))) fun x_32 =>
                              (match x0 with
                              | some a_33 => (Option.bind (intOf? .u64 (AMem.ld M_29 a_33.block (a_33.off + 4))) fun x_34 =>
                                (Option.bind (intOf? .u64 (AMem.ld M_29 (List.length r_3.2) 1)) fun x_35 =>
                                (Option.bind (L.call 46 [.pointer x1, .int .i64 x_30, .int .u64 x_32, .int .u64 (IntKind.wrap .u64 (x_34 + x_35))] M_29) fun r_36 =>
                                (Option.bind (boolOf? (some r_36.1)) fun q_37 =>
                                (if q_37 = true
                                then (match x0 with
                                  | some a_38 => (Option.bind (intOf? .i64 (AMem.ld r_36.2 a_38.block (a_38.off + 2))) fun x_39 =>
                                    (match x0 with
                                    | some a_40 => (Option.bind (AMem.wr r_36.2 a_40.block (a_40.off + 2) [.int .i64 (IntKind.wrap .i64 (x_39 + 1))]) fun M_41 =>
                                      some (.bool true, M_41))
                                    | none => none))
                                  | none => none)
                                else (match x0 with
                                  | some a_42 => (Option.bind (intOf? .i64 (AMem.ld r_36.2 a_42.block (a_42.off + 5))) fun x_43 =>
                                    (match x0 with
                                    | some a_44 => (Option.bind (AMem.wr r_36.2 a_44.block (a_44.off + 5) [.int .i64 (IntKind.wrap .i64 (x_43 + 1))]) fun M_45 =>
                                      P18_36 L M_45)
                                    | none => none))
                                  | none => none))))))
                              | none => none))
                            | none => none)))
                          | none => none)))
                      | none => none)
                    else none))))
                  else none)
                | none => none))
              | none => none))
            | none => none))
        else none))
      | none => none)))))) := by
  subst hP18_36; kernel_rfl
theorem E18 (L : Rec) (x0 : Option Addr) (x1 : Option Addr) (M : AMem) : enterF L a18 [.pointer x0, .pointer x1] M =
  (Option.bind (L.call 45 [.pointer x0] M) fun r_1 =>
    (Option.bind (intOf? .i64 (some r_1.1)) fun x_2 =>
    (if (x_2 == 0) = true
    then some (.bool false, r_1.2)
    else (Option.bind (L.call 41 [.pointer x1] r_1.2) fun r_3 =>
      (Option.bind (intOf? .i64 (some r_3.1)) fun x_4 =>
      (match x0 with
      | some a_5 => (Option.bind (intOf? .i64 (AMem.ld r_3.2 a_5.block a_5.off)) fun x_6 =>
        (if chkOk [(9, 5)] [(9, a_5.block)] [(5, (r_1.2, r_3.2))] = true
        then (if (x_4 != x_6) = true
          then some (.bool false, r_3.2)
          else (match x0 with
            | some a_7 => (Option.bind (sliceOf? (AMem.ld r_3.2 a_7.block (a_7.off + 1))) fun s_8 =>
              (match x0 with
              | some a_9 => (Option.bind (intOf? .i64 (AMem.ld r_3.2 a_9.block (a_9.off + 2))) fun x_10 =>
                (match s_8.1 with
                | some a_11 => (if (0 : Int) ≤ x_10 ∧ x_10 < (Int.ofNat s_8.2.1)
                  then (Option.bind (intOf? .i64 (AMem.ld r_3.2 a_11.block (a_11.off + ((Int.toNat x_10) * 2)))) fun x_12 =>
                    (Option.bind (intOf? .u64 (AMem.ld r_3.2 a_11.block ((a_11.off + ((Int.toNat x_10) * 2)) + 1))) fun x_13 =>
                    (Option.bind (AMem.wr (r_3.2 ++ [AObj.cells [.int .i64 0, .int .u64 0] ⟨false, 0⟩]) (List.length r_3.2) 0 [.int .i64 x_12, .int .u64 x_13]) fun M_14 =>
                    (if chkOk [(3, 10), (7, 10), (9, 10)] [(9, a_11.block), (7, a_9.block), (3, a_7.block)] [(10, (r_3.2, (r_3.2 ++ [AObj.cells [.int .i64 0, .int .u64 0] ⟨false, 0⟩])))] = true
                    then (match x0 with
                      | some a_15 => (Option.bind (boolOf? (AMem.ld M_14 a_15.block (a_15.off + 3))) fun q_16 =>
                        (if (!q_16) = true
                        then (Option.bind (intOf? .i64 (AMem.ld M_14 (List.length r_3.2) 0)) fun x_17 =>
                          (Option.bind (L.call 43 [.pointer x1, .int .i64 x_17] M_14) fun r_18 =>
                          (Option.bind (tupOf? 2 r_18.1) fun cs_19 =>
                          (Option.bind (cs_19[0]?) fun u_20 =>
                          (Option.bind (intOf? .u64 (some u_20)) fun x_21 =>
                          (Option.bind (cs_19[1]?) fun u_22 =>
                          (Option.bind (boolOf? (some u_22)) fun q_23 =>
                          (match x0 with
                          | some a_24 => (Option.bind (AMem.wr r_18.2 a_24.block (a_24.off + 4) [.int .u64 x_21]) fun M_25 =>
                            (match x0 with
                            | some a_26 => (Option.bind (AMem.wr M_25 a_26.block (a_26.off + 3) [.bool q_23]) fun M_27 =>
                              some (.bool true, M_27))
                            | none => none))
                          | none => none))))))))
                        else (match x0 with
                          | some a_28 => (Option.bind (AMem.wr M_14 a_28.block (a_28.off + 3) [.bool false]) fun M_29 =>
                            (Option.bind (intOf? .i64 (AMem.ld M_29 (List.length r_3.2) 0)) fun x_30 =>
                            (match x0 with
                            | some a_31 => (Option.bind (intOf? .u64 (AMem.ld M_29 a_31.block (a_31.off + 4))) fun x_32 =>
                              (match x0 with
                              | some a_33 => (Option.bind (intOf? .u64 (AMem.ld M_29 a_33.block (a_33.off + 4))) fun x_34 =>
                                (Option.bind (intOf? .u64 (AMem.ld M_29 (List.length r_3.2) 1)) fun x_35 =>
                                (Option.bind (L.call 46 [.pointer x1, .int .i64 x_30, .int .u64 x_32, .int .u64 (IntKind.wrap .u64 (x_34 + x_35))] M_29) fun r_36 =>
                                (Option.bind (boolOf? (some r_36.1)) fun q_37 =>
                                (if q_37 = true
                                then (match x0 with
                                  | some a_38 => (Option.bind (intOf? .i64 (AMem.ld r_36.2 a_38.block (a_38.off + 2))) fun x_39 =>
                                    (match x0 with
                                    | some a_40 => (Option.bind (AMem.wr r_36.2 a_40.block (a_40.off + 2) [.int .i64 (IntKind.wrap .i64 (x_39 + 1))]) fun M_41 =>
                                      some (.bool true, M_41))
                                    | none => none))
                                  | none => none)
                                else (match x0 with
                                  | some a_42 => (Option.bind (intOf? .i64 (AMem.ld r_36.2 a_42.block (a_42.off + 5))) fun x_43 =>
                                    (match x0 with
                                    | some a_44 => (Option.bind (AMem.wr r_36.2 a_44.block (a_44.off + 5) [.int .i64 (IntKind.wrap .i64 (x_43 + 1))]) fun M_45 =>
                                      P18_36 L M_45)
                                    | none => none))
                                  | none => none))))))
                              | none => none))
                            | none => none)))
                          | none => none)))
                      | none => none)
                    else none))))
                  else none)
                | none => none))
              | none => none))
            | none => none))
        else none))
      | none => none)))))) := QE18 L c18_36 P18_36 (Classical.choose_spec XP18_36) x0 x1 M
/-! #### flush.Flush.Done -/
theorem E33 (L : Rec) (x0 : Option Addr) (M : AMem) : enterF L a33 [.pointer x0] M =
  (Option.bind (L.call 45 [.pointer x0] M) fun r_1 =>
    (Option.bind (intOf? .i64 (some r_1.1)) fun x_2 =>
    some (.bool (x_2 == 0), r_1.2))) := by kernel_rfl
/-! #### flush.Flush.Begun -/
theorem E32 (L : Rec) (x0 : Option Addr) (M : AMem) : enterF L a32 [.pointer x0] M =
  (if (!(Option.isNone x0)) = true
    then (match x0 with
      | some a_1 => (Option.bind (intOf? .i64 (AMem.ld M a_1.block (a_1.off + 2))) fun x_2 =>
        some (.bool (decide (x_2 > 0)), M))
      | none => none)
    else some (.bool false, M)) := by kernel_rfl
end Go.Proofs.Ytpnknolehckfhaa
