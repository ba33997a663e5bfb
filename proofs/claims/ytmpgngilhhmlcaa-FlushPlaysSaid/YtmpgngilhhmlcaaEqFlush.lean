/- What the pieces of some functions come to. -/
import Derived.Test.YtmpgngilhhmlcaaCode
set_option linter.unusedVariables false
set_option maxRecDepth 100000
namespace Go.Proofs.Ytmpgngilhhmlcaa
open Go Go.Ax
/-! #### flush.New -/
noncomputable def k21_14 (L : Rec) : KT := blockK 0 (seqK (code L (.clear zl38 c21_33) (retK [.tmp 6])) (retK [.tmp 6]))
def s21_14 (x1 : Int) (x2 : Option Addr) (x2n : Nat) (x2c : Nat) (x3 : Nat) (x20 : Option Addr) (x20n : Nat) (x20c : Nat) (x21 : Int) (x22 : Int) (M : AMem) : List Value := [junk, .int .i64 x1, .slice x2 x2n x2c, .pointer (some ⟨x3, 0, none⟩), junk, junk, .pointer none, junk, junk, junk, junk, junk, junk, junk, junk, junk, junk, junk, junk, junk, .slice x20 x20n x20c, .int .i64 x21, .int .i64 x22, junk, junk, junk, junk, junk, junk, junk, junk, junk, junk, junk, junk, junk, junk, junk, junk, junk, junk, .tuple #[], junk, junk, junk, junk, junk, junk, junk, junk, junk, junk, junk]
theorem XP21_14 : ∃ P : Rec → Int → (Option Addr) → Nat → Nat → Nat → (Option Addr) → Nat → Nat → Int → Int → AMem → Res, P = fun (L : Rec) (x1 : Int) (x2 : Option Addr) (x2n : Nat) (x2c : Nat) (x3 : Nat) (x20 : Option Addr) (x20n : Nat) (x20c : Nat) (x21 : Int) (x22 : Int) (M : AMem) => L.loop b21_14 (k21_14 L) (s21_14 x1 x2 x2n x2c x3 x20 x20n x20c x21 x22 M) M := ⟨_, rfl⟩
noncomputable def P21_14 : Rec → Int → (Option Addr) → Nat → Nat → Nat → (Option Addr) → Nat → Nat → Int → Int → AMem → Res := Classical.choose XP21_14
noncomputable def k21_32 (L : Rec) : KT := postK zl35 (loopK L b21_14 (blockK 0 (seqK (code L (.clear zl38 c21_33) (retK [.tmp 6])) (retK [.tmp 6]))))
def s21_32 (x1 : Int) (x2 : Option Addr) (x2n : Nat) (x2c : Nat) (x3 : Nat) (x20 : Option Addr) (x20n : Nat) (x20c : Nat) (x21 : Int) (x22 : Int) (M : AMem) : List Value := [junk, .int .i64 x1, .slice x2 x2n x2c, .pointer (some ⟨x3, 0, none⟩), junk, junk, .pointer none, junk, junk, junk, junk, junk, junk, junk, junk, junk, junk, junk, junk, junk, .slice x20 x20n x20c, .int .i64 x21, .int .i64 x22, junk, junk, junk, junk, junk, junk, junk, junk, junk, junk, junk, junk, junk, junk, junk, junk, junk, junk, .tuple #[], junk, junk, junk, junk, junk, junk, junk, junk, junk, junk, junk]
theorem XP21_32 : ∃ P : Rec → Int → (Option Addr) → Nat → Nat → Nat → (Option Addr) → Nat → Nat → Int → Int → AMem → Res, P = fun (L : Rec) (x1 : Int) (x2 : Option Addr) (x2n : Nat) (x2c : Nat) (x3 : Nat) (x20 : Option Addr) (x20n : Nat) (x20c : Nat) (x21 : Int) (x22 : Int) (M : AMem) => code L c21_32 (k21_32 L) (s21_32 x1 x2 x2n x2c x3 x20 x20n x20c x21 x22 M) M := ⟨_, rfl⟩
noncomputable def P21_32 : Rec → Int → (Option Addr) → Nat → Nat → Nat → (Option Addr) → Nat → Nat → Int → Int → AMem → Res := Classical.choose XP21_32
noncomputable def k21_33 (L : Rec) : KT := retK [.tmp 6]
def s21_33 (x1 : Int) (x2 : Option Addr) (x2n : Nat) (x2c : Nat) (x3 : Nat) (M : AMem) : List Value := [junk, .int .i64 x1, .slice x2 x2n x2c, .pointer (some ⟨x3, 0, none⟩), junk, junk, .pointer none, junk, junk, junk, junk, junk, junk, junk, junk, junk, junk, junk, junk, junk, junk, junk, junk, junk, junk, junk, junk, junk, junk, junk, junk, junk, junk, junk, junk, junk, junk, junk, junk, junk, junk, .tuple #[], junk, junk, junk, junk, junk, junk, junk, junk, junk, junk, junk]
theorem XP21_33 : ∃ P : Rec → Int → (Option Addr) → Nat → Nat → Nat → AMem → Res, P = fun (L : Rec) (x1 : Int) (x2 : Option Addr) (x2n : Nat) (x2c : Nat) (x3 : Nat) (M : AMem) => code L c21_33 (k21_33 L) (s21_33 x1 x2 x2n x2c x3 M) M := ⟨_, rfl⟩
noncomputable def P21_33 : Rec → Int → (Option Addr) → Nat → Nat → Nat → AMem → Res := Classical.choose XP21_33
noncomputable def k21_43 (L : Rec) : KT := retK [.tmp 6]
def s21_43 (x9 : Nat) (M : AMem) : List Value := [junk, junk, junk, junk, junk, junk, junk, junk, junk, .pointer (some ⟨x9, 0, none⟩), junk, junk, junk, junk, junk, junk, junk, junk, junk, junk, junk, junk, junk, junk, junk, junk, junk, junk, junk, junk, junk, junk, junk, junk, junk, junk, junk, junk, junk, junk, junk, junk, junk, junk, junk, junk, junk, junk, junk, junk, junk, junk, junk]
theorem XP21_43 : ∃ P : Rec → Nat → AMem → Res, P = fun (L : Rec) (x9 : Nat) (M : AMem) => code L c21_43 (k21_43 L) (s21_43 x9 M) M := ⟨_, rfl⟩
noncomputable def P21_43 : Rec → Nat → AMem → Res := Classical.choose XP21_43
noncomputable def k21_39 (L : Rec) (l : Nat) : KT := roundK l
def s21_39 (l : Nat) (x9 : Nat) (x40 : Value) (y0_0 : Int) (y0_1 : Int) (z : Nat) (M : AMem) : List Value := [junk, junk, junk, junk, junk, junk, .pointer none, junk, junk, .pointer (some ⟨x9, 0, none⟩), .pointer (some ⟨z, 0, none⟩), junk, junk, junk, junk, junk, junk, junk, junk, junk, junk, junk, junk, junk, junk, junk, junk, junk, junk, junk, junk, junk, junk, junk, junk, junk, junk, junk, junk, junk, x40, .agg #[.int .i64 y0_0, .int .u64 y0_1], junk, junk, junk, junk, junk, junk, junk, junk, junk, junk, junk]
def lo21_39 (s : LoopState) (pe : Option AExit) (x9 : Nat) (x40 : Value) : ALoop := ⟨s, pe, [junk, junk, junk, junk, junk, junk, .pointer none, junk, junk, .pointer (some ⟨x9, 0, none⟩), junk, junk, junk, junk, junk, junk, junk, junk, junk, junk, junk, junk, junk, junk, junk, junk, junk, junk, junk, junk, junk, junk, junk, junk, junk, junk, junk, junk, junk, junk, x40, .tuple #[], junk, junk, junk, junk, junk, junk, junk, junk, junk, junk, junk], [41], .ops o21_40, b21_39⟩
theorem XP21_39 : ∃ P : Rec → Nat → Nat → Value → Int → Int → Nat → AMem → Res, P = fun (L : Rec) (l : Nat) (x9 : Nat) (x40 : Value) (y0_0 : Int) (y0_1 : Int) (z : Nat) (M : AMem) => code L b21_39 (k21_39 L l) (s21_39 l x9 x40 y0_0 y0_1 z M) M := ⟨_, rfl⟩
noncomputable def P21_39 : Rec → Nat → Nat → Value → Int → Int → Nat → AMem → Res := Classical.choose XP21_39
theorem QP21_14_eq (L : Rec) (b21_14 c21_32 c21_33 : ACode) (hb : ∀ K t A, L.loop b21_14 K t A = code L (.post (.seq (.ops o21_16) (.seq (.cond (.tmp 23) (.skip) (.exit 0)) (.seq (.block 1 (.seq (.ops o21_24) (.seq (.ops o21_26) (.cond (.tmp 31) (.seq (.ops o21_29) (.ret)) (.skip))))) (.clear zl35 c21_32)))) zl35) (loopK L b21_14 K) t A) (P21_14 : Rec → Int → (Option Addr) → Nat → Nat → Nat → (Option Addr) → Nat → Nat → Int → Int → AMem → Res) (hP21_14 : P21_14 = fun (L : Rec) (x1 : Int) (x2 : Option Addr) (x2n : Nat) (x2c : Nat) (x3 : Nat) (x20 : Option Addr) (x20n : Nat) (x20c : Nat) (x21 : Int) (x22 : Int) (M : AMem) => L.loop b21_14 (blockK 0 (seqK (code L (.clear zl38 c21_33) (retK [.tmp 6])) (retK [.tmp 6]))) (s21_14 x1 x2 x2n x2c x3 x20 x20n x20c x21 x22 M) M) (P21_32 : Rec → Int → (Option Addr) → Nat → Nat → Nat → (Option Addr) → Nat → Nat → Int → Int → AMem → Res) (hP21_32 : P21_32 = fun (L : Rec) (x1 : Int) (x2 : Option Addr) (x2n : Nat) (x2c : Nat) (x3 : Nat) (x20 : Option Addr) (x20n : Nat) (x20c : Nat) (x21 : Int) (x22 : Int) (M : AMem) => code L c21_32 (postK zl35 (loopK L b21_14 (blockK 0 (seqK (code L (.clear zl38 c21_33) (retK [.tmp 6])) (retK [.tmp 6]))))) (s21_32 x1 x2 x2n x2c x3 x20 x20n x20c x21 x22 M) M) (P21_33 : Rec → Int → (Option Addr) → Nat → Nat → Nat → AMem → Res) (hP21_33 : P21_33 = fun (L : Rec) (x1 : Int) (x2 : Option Addr) (x2n : Nat) (x2c : Nat) (x3 : Nat) (M : AMem) => code L c21_33 (retK [.tmp 6]) (s21_33 x1 x2 x2n x2c x3 M) M) (x1 : Int) (x2 : Option Addr) (x2n : Nat) (x2c : Nat) (x3 : Nat) (x20 : Option Addr) (x20n : Nat) (x20c : Nat) (x21 : Int) (x22 : Int) (M : AMem) : P21_14 L x1 x2 x2n x2c x3 x20 x20n x20c x21 x22 M =
  (if (decide (x22 < x21)) = true
    then (match x20 with
      | some a_1 => (if (0 : Int) ≤ x22 ∧ x22 < (Int.ofNat x20n)
        then (Option.bind (intOf? .i64 (AMem.ld M a_1.block (a_1.off + ((Int.toNat x22) * 4)))) fun x_2 =>
          (Option.bind (intOf? .u64 (AMem.ld M a_1.block ((a_1.off + ((Int.toNat x22) * 4)) + 1))) fun x_3 =>
          (Option.bind (intOf? .u64 (AMem.ld M a_1.block ((a_1.off + ((Int.toNat x22) * 4)) + 2))) fun x_4 =>
          (Option.bind (intOf? .u64 (AMem.ld M a_1.block ((a_1.off + ((Int.toNat x22) * 4)) + 3))) fun x_5 =>
          (Option.bind (AMem.wr (M ++ [AObj.cells [.int .i64 0, .int .u64 0, .int .u64 0, .int .u64 0] ⟨false, 0⟩]) (List.length M) 0 [.int .i64 x_2, .int .u64 x_3, .int .u64 x_4, .int .u64 x_5]) fun M_6 =>
          (Option.bind (intOf? .i64 (AMem.ld M_6 x3 0)) fun x_7 =>
          (Option.bind (intOf? .i64 (AMem.ld M_6 x3 1)) fun x_8 =>
          (Option.bind (intOf? .i64 (AMem.ld M_6 (List.length M) 0)) fun x_9 =>
          (Option.bind (L.call 35 [.agg #[.int .i64 x_7, .int .i64 x_8], .int .i64 x_9] []) fun r_10 =>
          (Option.bind (intOf? .i64 (some r_10.1)) fun x_11 =>
          (if (x_11 != x1) = true
          then some (.pointer none, M_6)
          else P21_32 L x1 x2 x2n x2c x3 x20 x20n x20c x21 x22 M_6)))))))))))
        else none)
      | none => none)
    else P21_33 L x1 x2 x2n x2c x3 M) := by
  subst hP21_14; subst hP21_32; subst hP21_33; exact (hb (blockK 0 (seqK (code L (.clear zl38 c21_33) (retK [.tmp 6])) (retK [.tmp 6]))) (s21_14 x1 x2 x2n x2c x3 x20 x20n x20c x21 x22 M) M).trans (by kernel_rfl)
theorem P21_14_eq (L : Rec) (hL : ∀ b K t A, L.loop b K t A = code L b (loopK L b K) t A) (x1 : Int) (x2 : Option Addr) (x2n : Nat) (x2c : Nat) (x3 : Nat) (x20 : Option Addr) (x20n : Nat) (x20c : Nat) (x21 : Int) (x22 : Int) (M : AMem) : P21_14 L x1 x2 x2n x2c x3 x20 x20n x20c x21 x22 M =
  (if (decide (x22 < x21)) = true
    then (match x20 with
      | some a_1 => (if (0 : Int) ≤ x22 ∧ x22 < (Int.ofNat x20n)
        then (Option.bind (intOf? .i64 (AMem.ld M a_1.block (a_1.off + ((Int.toNat x22) * 4)))) fun x_2 =>
          (Option.bind (intOf? .u64 (AMem.ld M a_1.block ((a_1.off + ((Int.toNat x22) * 4)) + 1))) fun x_3 =>
          (Option.bind (intOf? .u64 (AMem.ld M a_1.block ((a_1.off + ((Int.toNat x22) * 4)) + 2))) fun x_4 =>
          (Option.bind (intOf? .u64 (AMem.ld M a_1.block ((a_1.off + ((Int.toNat x22) * 4)) + 3))) fun x_5 =>
          (Option.bind (AMem.wr (M ++ [AObj.cells [.int .i64 0, .int .u64 0, .int .u64 0, .int .u64 0] ⟨false, 0⟩]) (List.length M) 0 [.int .i64 x_2, .int .u64 x_3, .int .u64 x_4, .int .u64 x_5]) fun M_6 =>
          (Option.bind (intOf? .i64 (AMem.ld M_6 x3 0)) fun x_7 =>
          (Option.bind (intOf? .i64 (AMem.ld M_6 x3 1)) fun x_8 =>
          (Option.bind (intOf? .i64 (AMem.ld M_6 (List.length M) 0)) fun x_9 =>
          (Option.bind (L.call 35 [.agg #[.int .i64 x_7, .int .i64 x_8], .int .i64 x_9] []) fun r_10 =>
          (Option.bind (intOf? .i64 (some r_10.1)) fun x_11 =>
          (if (x_11 != x1) = true
          then some (.pointer none, M_6)
          else P21_32 L x1 x2 x2n x2c x3 x20 x20n x20c x21 x22 M_6)))))))))))
        else none)
      | none => none)
    else P21_33 L x1 x2 x2n x2c x3 M) := QP21_14_eq L b21_14 c21_32 c21_33 (hL b21_14) P21_14 (Classical.choose_spec XP21_14) P21_32 (Classical.choose_spec XP21_32) P21_33 (Classical.choose_spec XP21_33) x1 x2 x2n x2c x3 x20 x20n x20c x21 x22 M
theorem QP21_32_eq (L : Rec) (b21_14 c21_33 : ACode) (P21_14 : Rec → Int → (Option Addr) → Nat → Nat → Nat → (Option Addr) → Nat → Nat → Int → Int → AMem → Res) (hP21_14 : P21_14 = fun (L : Rec) (x1 : Int) (x2 : Option Addr) (x2n : Nat) (x2c : Nat) (x3 : Nat) (x20 : Option Addr) (x20n : Nat) (x20c : Nat) (x21 : Int) (x22 : Int) (M : AMem) => L.loop b21_14 (blockK 0 (seqK (code L (.clear zl38 c21_33) (retK [.tmp 6])) (retK [.tmp 6]))) (s21_14 x1 x2 x2n x2c x3 x20 x20n x20c x21 x22 M) M) (P21_32 : Rec → Int → (Option Addr) → Nat → Nat → Nat → (Option Addr) → Nat → Nat → Int → Int → AMem → Res) (hP21_32 : P21_32 = fun (L : Rec) (x1 : Int) (x2 : Option Addr) (x2n : Nat) (x2c : Nat) (x3 : Nat) (x20 : Option Addr) (x20n : Nat) (x20c : Nat) (x21 : Int) (x22 : Int) (M : AMem) => code L (.ops o21_32) (postK zl35 (loopK L b21_14 (blockK 0 (seqK (code L (.clear zl38 c21_33) (retK [.tmp 6])) (retK [.tmp 6]))))) (s21_32 x1 x2 x2n x2c x3 x20 x20n x20c x21 x22 M) M) (x1 : Int) (x2 : Option Addr) (x2n : Nat) (x2c : Nat) (x3 : Nat) (x20 : Option Addr) (x20n : Nat) (x20c : Nat) (x21 : Int) (x22 : Int) (M : AMem) : P21_32 L x1 x2 x2n x2c x3 x20 x20n x20c x21 x22 M =
  P21_14 L x1 x2 x2n x2c x3 x20 x20n x20c x21 (IntKind.wrap .i64 (x22 + 1)) M := by
  subst hP21_14; subst hP21_32; kernel_rfl
theorem P21_32_eq (L : Rec) (x1 : Int) (x2 : Option Addr) (x2n : Nat) (x2c : Nat) (x3 : Nat) (x20 : Option Addr) (x20n : Nat) (x20c : Nat) (x21 : Int) (x22 : Int) (M : AMem) : P21_32 L x1 x2 x2n x2c x3 x20 x20n x20c x21 x22 M =
  P21_14 L x1 x2 x2n x2c x3 x20 x20n x20c x21 (IntKind.wrap .i64 (x22 + 1)) M := QP21_32_eq L b21_14 c21_33 P21_14 (Classical.choose_spec XP21_14) P21_32 (Classical.choose_spec XP21_32) x1 x2 x2n x2c x3 x20 x20n x20c x21 x22 M
theorem G21_33 (L : Rec) (b21_39 c21_43 : ACode) (x1 : Int) (x2 : Option Addr) (x2n : Nat) (x2c : Nat) (x3 : Nat) (M : AMem) : code L (.seq (.ops o21_34) (.seq (.seq (.ops o21_37) (.block 2 (.clear zl36 (.rangeFunc (.tmp 40) [41] (.ops o21_40) b21_39)))) (.clear zl37 c21_43))) (retK [.tmp 6]) [junk, .int .i64 x1, .slice x2 x2n x2c, .pointer (some ⟨x3, 0, none⟩), junk, junk, .pointer none, junk, junk, junk, junk, junk, junk, junk, junk, junk, junk, junk, junk, junk, junk, junk, junk, junk, junk, junk, junk, junk, junk, junk, junk, junk, junk, junk, junk, junk, junk, junk, junk, junk, junk, .tuple #[], junk, junk, junk, junk, junk, junk, junk, junk, junk, junk, junk] M =
  (Option.bind (intOf? .i64 (AMem.ld M x3 0)) fun x_1 =>
    (Option.bind (intOf? .i64 (AMem.ld M x3 1)) fun x_2 =>
    (Option.bind (L.call 28 [.agg #[.int .i64 x_1, .int .i64 x_2]] []) fun r_3 =>
    (Option.bind (intOf? .i64 (some r_3.1)) fun x_4 =>
    (Option.bind (AMem.wr ((M ++ [AObj.cells [.int .i64 x_4, .slice none 0 0, .int .i64 0, .bool false, .int .u64 0, .int .i64 0] ⟨false, 0⟩]) ++ [AObj.cells [.pointer none] ⟨false, 0⟩]) (List.length (M ++ [AObj.cells [.int .i64 x_4, .slice none 0 0, .int .i64 0, .bool false, .int .u64 0, .int .i64 0] ⟨false, 0⟩])) 0 [.pointer (some ⟨(List.length M), 0, none⟩)]) fun M_5 =>
    (Option.bind (intOf? .i64 (AMem.ld M_5 x3 0)) fun x_6 =>
    (Option.bind (intOf? .i64 (AMem.ld M_5 x3 1)) fun x_7 =>
    (Option.bind (L.call 36 [.agg #[.int .i64 x_6, .int .i64 x_7], .int .i64 x1, .slice x2 x2n x2c] M_5) fun r_8 =>
    (Option.bind (anyOf? (some r_8.1)) fun u_9 =>
    (funK u_9 fun g_14 f_15 c_16 =>
    (Option.bind (L.call g_14 (f_15 ++ [.func (.yield (List.length r_8.2)) #[] #[]] ++ c_16) (r_8.2 ++ [AObj.loop ⟨.ready, none, [junk, junk, junk, junk, junk, junk, .pointer none, junk, junk, .pointer (some ⟨(List.length (M ++ [AObj.cells [.int .i64 x_4, .slice none 0 0, .int .i64 0, .bool false, .int .u64 0, .int .i64 0] ⟨false, 0⟩])), 0, none⟩), junk, junk, junk, junk, junk, junk, junk, junk, junk, junk, junk, junk, junk, junk, junk, junk, junk, junk, junk, junk, junk, junk, junk, junk, junk, junk, junk, junk, junk, junk, u_9, .tuple #[], junk, junk, junk, junk, junk, junk, junk, junk, junk, junk, junk], [41], .ops o21_40, b21_39⟩])) fun r_10 =>
    rangeK (List.length r_8.2) r_10 (fun M_12 =>
    code L c21_43 (retK [.tmp 6]) [junk, junk, junk, junk, junk, junk, junk, junk, junk, .pointer (some ⟨(List.length (M ++ [AObj.cells [.int .i64 x_4, .slice none 0 0, .int .i64 0, .bool false, .int .u64 0, .int .i64 0] ⟨false, 0⟩])), 0, none⟩), junk, junk, junk, junk, junk, junk, junk, junk, junk, junk, junk, junk, junk, junk, junk, junk, junk, junk, junk, junk, junk, junk, junk, junk, junk, junk, junk, junk, junk, junk, junk, junk, junk, junk, junk, junk, junk, junk, junk, junk, junk, junk, junk] M_12) (fun e_11 M_13 => (blockK 2 (seqK (code L (.clear zl37 c21_43) (retK [.tmp 6])) (retK [.tmp 6]))) e_11 [junk, junk, junk, junk, junk, junk, .pointer none, junk, junk, .pointer (some ⟨(List.length (M ++ [AObj.cells [.int .i64 x_4, .slice none 0 0, .int .i64 0, .bool false, .int .u64 0, .int .i64 0] ⟨false, 0⟩])), 0, none⟩), junk, junk, junk, junk, junk, junk, junk, junk, junk, junk, junk, junk, junk, junk, junk, junk, junk, junk, junk, junk, junk, junk, junk, junk, junk, junk, junk, junk, junk, junk, u_9, .tuple #[], junk, junk, junk, junk, junk, junk, junk, junk, junk, junk, junk] M_13)))))))))))) := by kernel_rfl
theorem QP21_33_eq (L : Rec) (P21_33 : Rec → Int → (Option Addr) → Nat → Nat → Nat → AMem → Res) (hP21_33 : P21_33 = fun (L : Rec) (x1 : Int) (x2 : Option Addr) (x2n : Nat) (x2c : Nat) (x3 : Nat) (M : AMem) => code L c21_33 (k21_33 L) (s21_33 x1 x2 x2n x2c x3 M) M) (P21_43 : Rec → Nat → AMem → Res) (hP21_43 : P21_43 = fun (L : Rec) (x9 : Nat) (M : AMem) => code L c21_43 (k21_43 L) (s21_43 x9 M) M) (x1 : Int) (x2 : Option Addr) (x2n : Nat) (x2c : Nat) (x3 : Nat) (M : AMem) : P21_33 L x1 x2 x2n x2c x3 M =
  (Option.bind (intOf? .i64 (AMem.ld M x3 0)) fun x_1 =>
    (Option.bind (intOf? .i64 (AMem.ld M x3 1)) fun x_2 =>
    (Option.bind (L.call 28 [.agg #[.int .i64 x_1, .int .i64 x_2]] []) fun r_3 =>
    (Option.bind (intOf? .i64 (some r_3.1)) fun x_4 =>
    (Option.bind (AMem.wr ((M ++ [AObj.cells [.int .i64 x_4, .slice none 0 0, .int .i64 0, .bool false, .int .u64 0, .int .i64 0] ⟨false, 0⟩]) ++ [AObj.cells [.pointer none] ⟨false, 0⟩]) (List.length (M ++ [AObj.cells [.int .i64 x_4, .slice none 0 0, .int .i64 0, .bool false, .int .u64 0, .int .i64 0] ⟨false, 0⟩])) 0 [.pointer (some ⟨(List.length M), 0, none⟩)]) fun M_5 =>
    (Option.bind (intOf? .i64 (AMem.ld M_5 x3 0)) fun x_6 =>
    (Option.bind (intOf? .i64 (AMem.ld M_5 x3 1)) fun x_7 =>
    (Option.bind (L.call 36 [.agg #[.int .i64 x_6, .int .i64 x_7], .int .i64 x1, .slice x2 x2n x2c] M_5) fun r_8 =>
    (Option.bind (anyOf? (some r_8.1)) fun u_9 =>
    (funK u_9 fun g_14 f_15 c_16 =>
    (Option.bind (L.call g_14 (f_15 ++ [.func (.yield (List.length r_8.2)) #[] #[]] ++ c_16) (r_8.2 ++ [AObj.loop (lo21_39 .ready none (List.length (M ++ [AObj.cells [.int .i64 x_4, .slice none 0 0, .int .i64 0, .bool false, .int .u64 0, .int .i64 0] ⟨false, 0⟩])) u_9)])) fun r_10 =>
    rangeK (List.length r_8.2) r_10 (fun M_12 =>
    P21_43 L (List.length (M ++ [AObj.cells [.int .i64 x_4, .slice none 0 0, .int .i64 0, .bool false, .int .u64 0, .int .i64 0] ⟨false, 0⟩])) M_12) (fun e_11 M_13 => (blockK 2 (seqK (code L (.clear zl37 c21_43) (retK [.tmp 6])) (retK [.tmp 6]))) e_11 [junk, junk, junk, junk, junk, junk, .pointer none, junk, junk, .pointer (some ⟨(List.length (M ++ [AObj.cells [.int .i64 x_4, .slice none 0 0, .int .i64 0, .bool false, .int .u64 0, .int .i64 0] ⟨false, 0⟩])), 0, none⟩), junk, junk, junk, junk, junk, junk, junk, junk, junk, junk, junk, junk, junk, junk, junk, junk, junk, junk, junk, junk, junk, junk, junk, junk, junk, junk, junk, junk, junk, junk, u_9, .tuple #[], junk, junk, junk, junk, junk, junk, junk, junk, junk, junk, junk] M_13)))))))))))) := by
  subst hP21_33; subst hP21_43; exact Eq.mp (by kernel_rfl) (G21_33 L b21_39 c21_43 x1 x2 x2n x2c x3 M)
theorem P21_33_eq (L : Rec) (x1 : Int) (x2 : Option Addr) (x2n : Nat) (x2c : Nat) (x3 : Nat) (M : AMem) : P21_33 L x1 x2 x2n x2c x3 M =
  (Option.bind (intOf? .i64 (AMem.ld M x3 0)) fun x_1 =>
    (Option.bind (intOf? .i64 (AMem.ld M x3 1)) fun x_2 =>
    (Option.bind (L.call 28 [.agg #[.int .i64 x_1, .int .i64 x_2]] []) fun r_3 =>
    (Option.bind (intOf? .i64 (some r_3.1)) fun x_4 =>
    (Option.bind (AMem.wr ((M ++ [AObj.cells [.int .i64 x_4, .slice none 0 0, .int .i64 0, .bool false, .int .u64 0, .int .i64 0] ⟨false, 0⟩]) ++ [AObj.cells [.pointer none] ⟨false, 0⟩]) (List.length (M ++ [AObj.cells [.int .i64 x_4, .slice none 0 0, .int .i64 0, .bool false, .int .u64 0, .int .i64 0] ⟨false, 0⟩])) 0 [.pointer (some ⟨(List.length M), 0, none⟩)]) fun M_5 =>
    (Option.bind (intOf? .i64 (AMem.ld M_5 x3 0)) fun x_6 =>
    (Option.bind (intOf? .i64 (AMem.ld M_5 x3 1)) fun x_7 =>
    (Option.bind (L.call 36 [.agg #[.int .i64 x_6, .int .i64 x_7], .int .i64 x1, .slice x2 x2n x2c] M_5) fun r_8 =>
    (Option.bind (anyOf? (some r_8.1)) fun u_9 =>
    (funK u_9 fun g_14 f_15 c_16 =>
    (Option.bind (L.call g_14 (f_15 ++ [.func (.yield (List.length r_8.2)) #[] #[]] ++ c_16) (r_8.2 ++ [AObj.loop (lo21_39 .ready none (List.length (M ++ [AObj.cells [.int .i64 x_4, .slice none 0 0, .int .i64 0, .bool false, .int .u64 0, .int .i64 0] ⟨false, 0⟩])) u_9)])) fun r_10 =>
    rangeK (List.length r_8.2) r_10 (fun M_12 =>
    P21_43 L (List.length (M ++ [AObj.cells [.int .i64 x_4, .slice none 0 0, .int .i64 0, .bool false, .int .u64 0, .int .i64 0] ⟨false, 0⟩])) M_12) (fun e_11 M_13 => (blockK 2 (seqK (code L (.clear zl37 c21_43) (retK [.tmp 6])) (retK [.tmp 6]))) e_11 [junk, junk, junk, junk, junk, junk, .pointer none, junk, junk, .pointer (some ⟨(List.length (M ++ [AObj.cells [.int .i64 x_4, .slice none 0 0, .int .i64 0, .bool false, .int .u64 0, .int .i64 0] ⟨false, 0⟩])), 0, none⟩), junk, junk, junk, junk, junk, junk, junk, junk, junk, junk, junk, junk, junk, junk, junk, junk, junk, junk, junk, junk, junk, junk, junk, junk, junk, junk, junk, junk, junk, junk, u_9, .tuple #[], junk, junk, junk, junk, junk, junk, junk, junk, junk, junk, junk] M_13)))))))))))) := QP21_33_eq L P21_33 (Classical.choose_spec XP21_33) P21_43 (Classical.choose_spec XP21_43) x1 x2 x2n x2c x3 M
theorem QP21_43_eq (L : Rec) (P21_43 : Rec → Nat → AMem → Res) (hP21_43 : P21_43 = fun (L : Rec) (x9 : Nat) (M : AMem) => code L (.seq (.ops o21_44) (.ret)) (retK [.tmp 6]) (s21_43 x9 M) M) (x9 : Nat) (M : AMem) : P21_43 L x9 M =
  (Option.bind (ptrOf? (AMem.ld M x9 0)) fun p_1 =>
    some (.pointer p_1, M)) := by
  subst hP21_43; kernel_rfl
theorem P21_43_eq (L : Rec) (x9 : Nat) (M : AMem) : P21_43 L x9 M =
  (Option.bind (ptrOf? (AMem.ld M x9 0)) fun p_1 =>
    some (.pointer p_1, M)) := QP21_43_eq L P21_43 (Classical.choose_spec XP21_43) x9 M
theorem QP21_39_eq (L : Rec) (P21_39 : Rec → Nat → Nat → Value → Int → Int → Nat → AMem → Res) (hP21_39 : P21_39 = fun (L : Rec) (l : Nat) (x9 : Nat) (x40 : Value) (y0_0 : Int) (y0_1 : Int) (z : Nat) (M : AMem) => code L (.block 3 (.draw [] 0 o21_42 [(0, 6), (0, 7), (1, 6), (4, 6)])) (roundK l) (s21_39 l x9 x40 y0_0 y0_1 z M) M) (l : Nat) (x9 : Nat) (x40 : Value) (y0_0 : Int) (y0_1 : Int) (z : Nat) (M : AMem) : P21_39 L l x9 x40 y0_0 y0_1 z M =
  (Option.bind (ptrOf? (AMem.ld M x9 0)) fun p_2 =>
    (Option.bind (ptrOf? (AMem.ld M x9 0)) fun p_3 =>
    (match p_3 with
    | some a_4 => (Option.bind (sliceOf? (AMem.ld M a_4.block (a_4.off + 1))) fun s_5 =>
      (Option.bind (intOf? .i64 (AMem.ld M z 0)) fun x_6 =>
      (Option.bind (intOf? .u64 (AMem.ld M z 1)) fun x_7 =>
      (Option.bind (rowOf (M ++ [AObj.cells [.int .i64 x_6, .int .u64 x_7] ⟨false, 0⟩]) 2 (.slice (some ⟨(List.length M), 0, none⟩) 1 2)) fun row_8 =>
      (appendK 2 16 s_5.1 s_5.2.1 s_5.2.2 1 row_8 (M ++ [AObj.cells [.int .i64 x_6, .int .u64 x_7] ⟨false, 0⟩]) fun p_9 n_10 c_11 M_12 =>
      (match p_2 with
      | some a_13 => (Option.bind (AMem.wr M_12 a_13.block (a_13.off + 1) [.slice p_9 n_10 c_11]) fun M_14 =>
        (if chkOk [(0, 6), (0, 7), (1, 6), (4, 6)] [(4, a_4.block), (1, x9), (0, x9)] [(7, ((M ++ [AObj.cells [.int .i64 x_6, .int .u64 x_7] ⟨false, 0⟩]), M_12)), (6, (M, (M ++ [AObj.cells [.int .i64 x_6, .int .u64 x_7] ⟨false, 0⟩])))] = true
        then roundK l AExit.normal [] M_14
        else none))
      | none => none))))))
    | none => none))) := by
  subst hP21_39; kernel_rfl
theorem P21_39_eq (L : Rec) (l : Nat) (x9 : Nat) (x40 : Value) (y0_0 : Int) (y0_1 : Int) (z : Nat) (M : AMem) : P21_39 L l x9 x40 y0_0 y0_1 z M =
  (Option.bind (ptrOf? (AMem.ld M x9 0)) fun p_2 =>
    (Option.bind (ptrOf? (AMem.ld M x9 0)) fun p_3 =>
    (match p_3 with
    | some a_4 => (Option.bind (sliceOf? (AMem.ld M a_4.block (a_4.off + 1))) fun s_5 =>
      (Option.bind (intOf? .i64 (AMem.ld M z 0)) fun x_6 =>
      (Option.bind (intOf? .u64 (AMem.ld M z 1)) fun x_7 =>
      (Option.bind (rowOf (M ++ [AObj.cells [.int .i64 x_6, .int .u64 x_7] ⟨false, 0⟩]) 2 (.slice (some ⟨(List.length M), 0, none⟩) 1 2)) fun row_8 =>
      (appendK 2 16 s_5.1 s_5.2.1 s_5.2.2 1 row_8 (M ++ [AObj.cells [.int .i64 x_6, .int .u64 x_7] ⟨false, 0⟩]) fun p_9 n_10 c_11 M_12 =>
      (match p_2 with
      | some a_13 => (Option.bind (AMem.wr M_12 a_13.block (a_13.off + 1) [.slice p_9 n_10 c_11]) fun M_14 =>
        (if chkOk [(0, 6), (0, 7), (1, 6), (4, 6)] [(4, a_4.block), (1, x9), (0, x9)] [(7, ((M ++ [AObj.cells [.int .i64 x_6, .int .u64 x_7] ⟨false, 0⟩]), M_12)), (6, (M, (M ++ [AObj.cells [.int .i64 x_6, .int .u64 x_7] ⟨false, 0⟩])))] = true
        then roundK l AExit.normal [] M_14
        else none))
      | none => none))))))
    | none => none))) := QP21_39_eq L P21_39 (Classical.choose_spec XP21_39) l x9 x40 y0_0 y0_1 z M
theorem R21_39 (L : Rec) (hR : ∀ l args A, L.round l args A = roundF L l args A) (l : Nat) (x9 : Nat) (x40 : Value) (y0_0 : Int) (y0_1 : Int) (M : AMem) (pe : Option AExit) (hM : M[l]? = some (.loop (lo21_39 .ready pe x9 x40))) (M1 : AMem) (hw : AMem.wr (M ++ [AObj.cells [.int .i64 0, .int .u64 0] ⟨false, 0⟩]) (List.length M) 0 [.int .i64 y0_0, .int .u64 y0_1] = some M1) (hM1 : M1[l]? = some (.loop (lo21_39 .ready pe x9 x40))) : L.round l [.agg #[.int .i64 y0_0, .int .u64 y0_1]] M =
  P21_39 L l x9 x40 y0_0 y0_1 (List.length M) (M1.set l (.loop (lo21_39 .busy pe x9 x40))) := by
  rw [hR, roundF_wr hM rfl rfl hw hM1 (s21_39 l x9 x40 y0_0 y0_1 (List.length M) M) (fun K => by kernel_rfl)]; exact (congrFun (congrFun (congrFun (congrFun (congrFun (congrFun (congrFun (congrFun (Classical.choose_spec XP21_39) L) l) x9) x40) y0_0) y0_1) _) _).symm
theorem QE21 (L : Rec) (b21_14 c21_33 : ACode) (P21_14 : Rec → Int → (Option Addr) → Nat → Nat → Nat → (Option Addr) → Nat → Nat → Int → Int → AMem → Res) (hP21_14 : P21_14 = fun (L : Rec) (x1 : Int) (x2 : Option Addr) (x2n : Nat) (x2c : Nat) (x3 : Nat) (x20 : Option Addr) (x20n : Nat) (x20c : Nat) (x21 : Int) (x22 : Int) (M : AMem) => L.loop b21_14 (blockK 0 (seqK (code L (.clear zl38 c21_33) (retK [.tmp 6])) (retK [.tmp 6]))) (s21_14 x1 x2 x2n x2c x3 x20 x20n x20c x21 x22 M) M) (x0_0 : Int) (x0_1 : Int) (x1 : Int) (x2 : Option Addr) (x2n : Nat) (x2c : Nat) (M : AMem) : enterF L ⟨53, [.tmp 6], .seq (.ops o21_1) (.seq (.seq (.ops o21_4) (.cond (.tmp 19) (.seq (.ops o21_7) (.ret)) (.skip))) (.seq (.seq (.ops o21_12) (.block 0 (.clear zl35 (.loop b21_14)))) (.clear zl38 c21_33)))⟩ [.agg #[.int .i64 x0_0, .int .i64 x0_1], .int .i64 x1, .slice x2 x2n x2c] M =
  (Option.bind (intOf? .i64 (AMem.ld (M ++ [AObj.cells [.int .i64 x0_0, .int .i64 x0_1] ⟨false, 0⟩]) (List.length M) 0)) fun x_1 =>
    (Option.bind (intOf? .i64 (AMem.ld (M ++ [AObj.cells [.int .i64 x0_0, .int .i64 x0_1] ⟨false, 0⟩]) (List.length M) 1)) fun x_2 =>
    (Option.bind (L.call 34 [.agg #[.int .i64 x_1, .int .i64 x_2], .int .i64 x1] []) fun r_3 =>
    (Option.bind (intOf? .i64 (some r_3.1)) fun x_4 =>
    (if (decide (x_4 < 0)) = true
    then some (.pointer none, (M ++ [AObj.cells [.int .i64 x0_0, .int .i64 x0_1] ⟨false, 0⟩]))
    else (if (decide ((Int.ofNat x2n) > 4096)) = true
      then some (.pointer none, (M ++ [AObj.cells [.int .i64 x0_0, .int .i64 x0_1] ⟨false, 0⟩]))
      else P21_14 L x1 x2 x2n x2c (List.length M) x2 x2n x2c (Int.ofNat x2n) 0 (M ++ [AObj.cells [.int .i64 x0_0, .int .i64 x0_1] ⟨false, 0⟩]))))))) := by
  subst hP21_14; kernel_rfl
theorem E21 (L : Rec) (x0_0 : Int) (x0_1 : Int) (x1 : Int) (x2 : Option Addr) (x2n : Nat) (x2c : Nat) (M : AMem) : enterF L a21 [.agg #[.int .i64 x0_0, .int .i64 x0_1], .int .i64 x1, .slice x2 x2n x2c] M =
  (Option.bind (intOf? .i64 (AMem.ld (M ++ [AObj.cells [.int .i64 x0_0, .int .i64 x0_1] ⟨false, 0⟩]) (List.length M) 0)) fun x_1 =>
    (Option.bind (intOf? .i64 (AMem.ld (M ++ [AObj.cells [.int .i64 x0_0, .int .i64 x0_1] ⟨false, 0⟩]) (List.length M) 1)) fun x_2 =>
    (Option.bind (L.call 34 [.agg #[.int .i64 x_1, .int .i64 x_2], .int .i64 x1] []) fun r_3 =>
    (Option.bind (intOf? .i64 (some r_3.1)) fun x_4 =>
    (if (decide (x_4 < 0)) = true
    then some (.pointer none, (M ++ [AObj.cells [.int .i64 x0_0, .int .i64 x0_1] ⟨false, 0⟩]))
    else (if (decide ((Int.ofNat x2n) > 4096)) = true
      then some (.pointer none, (M ++ [AObj.cells [.int .i64 x0_0, .int .i64 x0_1] ⟨false, 0⟩]))
      else P21_14 L x1 x2 x2n x2c (List.length M) x2 x2n x2c (Int.ofNat x2n) 0 (M ++ [AObj.cells [.int .i64 x0_0, .int .i64 x0_1] ⟨false, 0⟩]))))))) := QE21 L b21_14 c21_33 P21_14 (Classical.choose_spec XP21_14) x0_0 x0_1 x1 x2 x2n x2c M
/-! #### flush.adds -/
theorem E36 (L : Rec) (x0_0 : Int) (x0_1 : Int) (x1 : Int) (x2 : Option Addr) (x2n : Nat) (x2c : Nat) (M : AMem) : enterF L a36 [.agg #[.int .i64 x0_0, .int .i64 x0_1], .int .i64 x1, .slice x2 x2n x2c] M =
  some (.func (.func 44) #[] #[.pointer (some ⟨(List.length M), 0, none⟩), .pointer (some ⟨(List.length (M ++ [AObj.cells [.int .i64 x0_0, .int .i64 x0_1] ⟨false, 0⟩])), 0, none⟩), .pointer (some ⟨(List.length ((M ++ [AObj.cells [.int .i64 x0_0, .int .i64 x0_1] ⟨false, 0⟩]) ++ [AObj.cells [.int .i64 x1] ⟨false, 0⟩])), 0, none⟩)], (((M ++ [AObj.cells [.int .i64 x0_0, .int .i64 x0_1] ⟨false, 0⟩]) ++ [AObj.cells [.int .i64 x1] ⟨false, 0⟩]) ++ [AObj.cells [.slice x2 x2n x2c] ⟨false, 0⟩])) := by kernel_rfl
/-! #### flush.adds$1 -/
noncomputable def k44_10 (L : Rec) : KT := blockK 0 (seqK (code L (.clear zl51 c44_42) (retK [])) (retK []))
def s44_10 (x0 : Nat) (x1 : Nat) (x2 : Nat) (x16 : Option Addr) (x16n : Nat) (x16c : Nat) (x17 : Int) (x18 : Int) (M : AMem) : List Value := [.func (.yield x0) #[] #[], .pointer (some ⟨x1, 0, none⟩), .pointer (some ⟨x2, 0, none⟩), junk, junk, junk, junk, junk, junk, junk, junk, junk, junk, junk, junk, junk, .slice x16 x16n x16c, .int .i64 x17, .int .i64 x18, junk, junk, junk, junk, junk, junk, junk, junk, junk, junk, junk, junk, junk, junk, junk, junk, junk, junk, junk, junk, junk, junk, junk, junk, junk, junk, junk, junk, junk, junk, junk]
theorem XP44_10 : ∃ P : Rec → Nat → Nat → Nat → (Option Addr) → Nat → Nat → Int → Int → AMem → Res, P = fun (L : Rec) (x0 : Nat) (x1 : Nat) (x2 : Nat) (x16 : Option Addr) (x16n : Nat) (x16c : Nat) (x17 : Int) (x18 : Int) (M : AMem) => L.loop b44_10 (k44_10 L) (s44_10 x0 x1 x2 x16 x16n x16c x17 x18 M) M := ⟨_, rfl⟩
noncomputable def P44_10 : Rec → Nat → Nat → Nat → (Option Addr) → Nat → Nat → Int → Int → AMem → Res := Classical.choose XP44_10
noncomputable def k44_24 (L : Rec) : KT := blockK 2 (blockK 1 (seqK (code L (.clear zl50 c44_41) (postK zl50 (loopK L b44_10 (blockK 0 (seqK (code L (.clear zl51 c44_42) (retK [])) (retK [])))))) (postK zl50 (loopK L b44_10 (blockK 0 (seqK (code L (.clear zl51 c44_42) (retK [])) (retK [])))))))
def s44_24 (x0 : Nat) (x1 : Nat) (x2 : Nat) (x6 : Nat) (x16 : Option Addr) (x16n : Nat) (x16c : Nat) (x17 : Int) (x18 : Int) (x23_0 : Int) (x23_1 : Int) (x23_2 : Int) (x24 : Int) (M : AMem) : List Value := [.func (.yield x0) #[] #[], .pointer (some ⟨x1, 0, none⟩), .pointer (some ⟨x2, 0, none⟩), junk, junk, junk, .pointer (some ⟨x6, 0, none⟩), junk, junk, junk, junk, junk, junk, junk, junk, junk, .slice x16 x16n x16c, .int .i64 x17, .int .i64 x18, junk, junk, junk, junk, .agg #[.int .u64 x23_0, .int .u64 x23_1, .int .u64 x23_2], .int .i64 x24, junk, junk, junk, junk, junk, junk, junk, junk, junk, junk, junk, junk, junk, junk, junk, junk, junk, junk, junk, junk, junk, junk, junk, junk, junk]
theorem XP44_24 : ∃ P : Rec → Nat → Nat → Nat → Nat → (Option Addr) → Nat → Nat → Int → Int → Int → Int → Int → Int → AMem → Res, P = fun (L : Rec) (x0 : Nat) (x1 : Nat) (x2 : Nat) (x6 : Nat) (x16 : Option Addr) (x16n : Nat) (x16c : Nat) (x17 : Int) (x18 : Int) (x23_0 : Int) (x23_1 : Int) (x23_2 : Int) (x24 : Int) (M : AMem) => L.loop b44_24 (k44_24 L) (s44_24 x0 x1 x2 x6 x16 x16n x16c x17 x18 x23_0 x23_1 x23_2 x24 M) M := ⟨_, rfl⟩
noncomputable def P44_24 : Rec → Nat → Nat → Nat → Nat → (Option Addr) → Nat → Nat → Int → Int → Int → Int → Int → Int → AMem → Res := Classical.choose XP44_24
noncomputable def k44_42 (L : Rec) : KT := retK []
def s44_42 (x0 : Nat) (x1 : Nat) (x2 : Nat) (M : AMem) : List Value := [.func (.yield x0) #[] #[], .pointer (some ⟨x1, 0, none⟩), .pointer (some ⟨x2, 0, none⟩), junk, junk, junk, junk, junk, junk, junk, junk, junk, junk, junk, junk, junk, junk, junk, junk, junk, junk, junk, junk, junk, junk, junk, junk, junk, junk, junk, junk, junk, junk, junk, junk, junk, junk, junk, junk, junk, junk, junk, junk, junk, junk, junk, junk, junk, junk, junk]
theorem XP44_42 : ∃ P : Rec → Nat → Nat → Nat → AMem → Res, P = fun (L : Rec) (x0 : Nat) (x1 : Nat) (x2 : Nat) (M : AMem) => code L c44_42 (k44_42 L) (s44_42 x0 x1 x2 M) M := ⟨_, rfl⟩
noncomputable def P44_42 : Rec → Nat → Nat → Nat → AMem → Res := Classical.choose XP44_42
noncomputable def k44_40 (L : Rec) : KT := postK zl49 (loopK L b44_24 (blockK 2 (blockK 1 (seqK (code L (.clear zl50 c44_41) (postK zl50 (loopK L b44_10 (blockK 0 (seqK (code L (.clear zl51 c44_42) (retK [])) (retK [])))))) (postK zl50 (loopK L b44_10 (blockK 0 (seqK (code L (.clear zl51 c44_42) (retK [])) (retK [])))))))))
def s44_40 (x0 : Nat) (x1 : Nat) (x2 : Nat) (x6 : Nat) (x16 : Option Addr) (x16n : Nat) (x16c : Nat) (x17 : Int) (x18 : Int) (x23_0 : Int) (x23_1 : Int) (x23_2 : Int) (x24 : Int) (M : AMem) : List Value := [.func (.yield x0) #[] #[], .pointer (some ⟨x1, 0, none⟩), .pointer (some ⟨x2, 0, none⟩), junk, junk, junk, .pointer (some ⟨x6, 0, none⟩), junk, junk, junk, junk, junk, junk, junk, junk, junk, .slice x16 x16n x16c, .int .i64 x17, .int .i64 x18, junk, junk, junk, junk, .agg #[.int .u64 x23_0, .int .u64 x23_1, .int .u64 x23_2], .int .i64 x24, junk, junk, junk, junk, junk, junk, junk, junk, junk, junk, junk, junk, junk, junk, junk, junk, junk, junk, junk, junk, junk, junk, junk, junk, junk]
theorem XP44_40 : ∃ P : Rec → Nat → Nat → Nat → Nat → (Option Addr) → Nat → Nat → Int → Int → Int → Int → Int → Int → AMem → Res, P = fun (L : Rec) (x0 : Nat) (x1 : Nat) (x2 : Nat) (x6 : Nat) (x16 : Option Addr) (x16n : Nat) (x16c : Nat) (x17 : Int) (x18 : Int) (x23_0 : Int) (x23_1 : Int) (x23_2 : Int) (x24 : Int) (M : AMem) => code L c44_40 (k44_40 L) (s44_40 x0 x1 x2 x6 x16 x16n x16c x17 x18 x23_0 x23_1 x23_2 x24 M) M := ⟨_, rfl⟩
noncomputable def P44_40 : Rec → Nat → Nat → Nat → Nat → (Option Addr) → Nat → Nat → Int → Int → Int → Int → Int → Int → AMem → Res := Classical.choose XP44_40
noncomputable def k44_41 (L : Rec) : KT := postK zl50 (loopK L b44_10 (blockK 0 (seqK (code L (.clear zl51 c44_42) (retK [])) (retK []))))
def s44_41 (x0 : Nat) (x1 : Nat) (x2 : Nat) (x16 : Option Addr) (x16n : Nat) (x16c : Nat) (x17 : Int) (x18 : Int) (M : AMem) : List Value := [.func (.yield x0) #[] #[], .pointer (some ⟨x1, 0, none⟩), .pointer (some ⟨x2, 0, none⟩), junk, junk, junk, junk, junk, junk, junk, junk, junk, junk, junk, junk, junk, .slice x16 x16n x16c, .int .i64 x17, .int .i64 x18, junk, junk, junk, junk, junk, junk, junk, junk, junk, junk, junk, junk, junk, junk, junk, junk, junk, junk, junk, junk, junk, junk, junk, junk, junk, junk, junk, junk, junk, junk, junk]
theorem XP44_41 : ∃ P : Rec → Nat → Nat → Nat → (Option Addr) → Nat → Nat → Int → Int → AMem → Res, P = fun (L : Rec) (x0 : Nat) (x1 : Nat) (x2 : Nat) (x16 : Option Addr) (x16n : Nat) (x16c : Nat) (x17 : Int) (x18 : Int) (M : AMem) => code L c44_41 (k44_41 L) (s44_41 x0 x1 x2 x16 x16n x16c x17 x18 M) M := ⟨_, rfl⟩
noncomputable def P44_41 : Rec → Nat → Nat → Nat → (Option Addr) → Nat → Nat → Int → Int → AMem → Res := Classical.choose XP44_41
theorem QP44_10_eq (L : Rec) (b44_10 b44_24 c44_41 c44_42 : ACode) (hb : ∀ K t A, L.loop b44_10 K t A = code L (.post (.seq (.ops o44_12) (.seq (.cond (.tmp 19) (.skip) (.exit 0)) (.seq (.block 1 (.seq (.ops o44_20) (.seq (.ops o44_22) (.block 2 (.clear zl49 (.loop b44_24)))))) (.clear zl50 c44_41)))) zl50) (loopK L b44_10 K) t A) (P44_10 : Rec → Nat → Nat → Nat → (Option Addr) → Nat → Nat → Int → Int → AMem → Res) (hP44_10 : P44_10 = fun (L : Rec) (x0 : Nat) (x1 : Nat) (x2 : Nat) (x16 : Option Addr) (x16n : Nat) (x16c : Nat) (x17 : Int) (x18 : Int) (M : AMem) => L.loop b44_10 (blockK 0 (seqK (code L (.clear zl51 c44_42) (retK [])) (retK []))) (s44_10 x0 x1 x2 x16 x16n x16c x17 x18 M) M) (P44_24 : Rec → Nat → Nat → Nat → Nat → (Option Addr) → Nat → Nat → Int → Int → Int → Int → Int → Int → AMem → Res) (hP44_24 : P44_24 = fun (L : Rec) (x0 : Nat) (x1 : Nat) (x2 : Nat) (x6 : Nat) (x16 : Option Addr) (x16n : Nat) (x16c : Nat) (x17 : Int) (x18 : Int) (x23_0 : Int) (x23_1 : Int) (x23_2 : Int) (x24 : Int) (M : AMem) => L.loop b44_24 (blockK 2 (blockK 1 (seqK (code L (.clear zl50 c44_41) (postK zl50 (loopK L b44_10 (blockK 0 (seqK (code L (.clear zl51 c44_42) (retK [])) (retK [])))))) (postK zl50 (loopK L b44_10 (blockK 0 (seqK (code L (.clear zl51 c44_42) (retK [])) (retK [])))))))) (s44_24 x0 x1 x2 x6 x16 x16n x16c x17 x18 x23_0 x23_1 x23_2 x24 M) M) (P44_42 : Rec → Nat → Nat → Nat → AMem → Res) (hP44_42 : P44_42 = fun (L : Rec) (x0 : Nat) (x1 : Nat) (x2 : Nat) (M : AMem) => code L c44_42 (retK []) (s44_42 x0 x1 x2 M) M) (x0 : Nat) (x1 : Nat) (x2 : Nat) (x16 : Option Addr) (x16n : Nat) (x16c : Nat) (x17 : Int) (x18 : Int) (M : AMem) : P44_10 L x0 x1 x2 x16 x16n x16c x17 x18 M =
  (if (decide (x18 < x17)) = true
    then (match x16 with
      | some a_1 => (if (0 : Int) ≤ x18 ∧ x18 < (Int.ofNat x16n)
        then (Option.bind (intOf? .i64 (AMem.ld M a_1.block (a_1.off + ((Int.toNat x18) * 4)))) fun x_2 =>
          (Option.bind (intOf? .u64 (AMem.ld M a_1.block ((a_1.off + ((Int.toNat x18) * 4)) + 1))) fun x_3 =>
          (Option.bind (intOf? .u64 (AMem.ld M a_1.block ((a_1.off + ((Int.toNat x18) * 4)) + 2))) fun x_4 =>
          (Option.bind (intOf? .u64 (AMem.ld M a_1.block ((a_1.off + ((Int.toNat x18) * 4)) + 3))) fun x_5 =>
          (Option.bind (AMem.wr (M ++ [AObj.cells [.int .i64 0, .int .u64 0, .int .u64 0, .int .u64 0] ⟨false, 0⟩]) (List.length M) 0 [.int .i64 x_2, .int .u64 x_3, .int .u64 x_4, .int .u64 x_5]) fun M_6 =>
          (Option.bind (intOf? .u64 (AMem.ld M_6 (List.length M) 1)) fun x_7 =>
          (Option.bind (intOf? .u64 (AMem.ld M_6 (List.length M) 2)) fun x_8 =>
          (Option.bind (intOf? .u64 (AMem.ld M_6 (List.length M) 3)) fun x_9 =>
          P44_24 L x0 x1 x2 (List.length M) x16 x16n x16c x17 x18 x_7 x_8 x_9 0 M_6))))))))
        else none)
      | none => none)
    else P44_42 L x0 x1 x2 M) := by
  subst hP44_10; subst hP44_24; subst hP44_42; exact (hb (blockK 0 (seqK (code L (.clear zl51 c44_42) (retK [])) (retK []))) (s44_10 x0 x1 x2 x16 x16n x16c x17 x18 M) M).trans (by kernel_rfl)
theorem P44_10_eq (L : Rec) (hL : ∀ b K t A, L.loop b K t A = code L b (loopK L b K) t A) (x0 : Nat) (x1 : Nat) (x2 : Nat) (x16 : Option Addr) (x16n : Nat) (x16c : Nat) (x17 : Int) (x18 : Int) (M : AMem) : P44_10 L x0 x1 x2 x16 x16n x16c x17 x18 M =
  (if (decide (x18 < x17)) = true
    then (match x16 with
      | some a_1 => (if (0 : Int) ≤ x18 ∧ x18 < (Int.ofNat x16n)
        then (Option.bind (intOf? .i64 (AMem.ld M a_1.block (a_1.off + ((Int.toNat x18) * 4)))) fun x_2 =>
          (Option.bind (intOf? .u64 (AMem.ld M a_1.block ((a_1.off + ((Int.toNat x18) * 4)) + 1))) fun x_3 =>
          (Option.bind (intOf? .u64 (AMem.ld M a_1.block ((a_1.off + ((Int.toNat x18) * 4)) + 2))) fun x_4 =>
          (Option.bind (intOf? .u64 (AMem.ld M a_1.block ((a_1.off + ((Int.toNat x18) * 4)) + 3))) fun x_5 =>
          (Option.bind (AMem.wr (M ++ [AObj.cells [.int .i64 0, .int .u64 0, .int .u64 0, .int .u64 0] ⟨false, 0⟩]) (List.length M) 0 [.int .i64 x_2, .int .u64 x_3, .int .u64 x_4, .int .u64 x_5]) fun M_6 =>
          (Option.bind (intOf? .u64 (AMem.ld M_6 (List.length M) 1)) fun x_7 =>
          (Option.bind (intOf? .u64 (AMem.ld M_6 (List.length M) 2)) fun x_8 =>
          (Option.bind (intOf? .u64 (AMem.ld M_6 (List.length M) 3)) fun x_9 =>
          P44_24 L x0 x1 x2 (List.length M) x16 x16n x16c x17 x18 x_7 x_8 x_9 0 M_6))))))))
        else none)
      | none => none)
    else P44_42 L x0 x1 x2 M) := QP44_10_eq L b44_10 b44_24 c44_41 c44_42 (hL b44_10) P44_10 (Classical.choose_spec XP44_10) P44_24 (Classical.choose_spec XP44_24) P44_42 (Classical.choose_spec XP44_42) x0 x1 x2 x16 x16n x16c x17 x18 M
theorem QP44_24_eq (L : Rec) (b44_10 b44_24 c44_40 c44_41 c44_42 : ACode) (hb : ∀ K t A, L.loop b44_24 K t A = code L (.post (.seq (.ops o44_26) (.seq (.cond (.tmp 25) (.skip) (.exit 2)) (.seq (.block 3 (.seq (.ops o44_34) (.seq (.ops o44_36) (.cond (.tmp 41) (.ret) (.skip))))) (.clear zl49 c44_40)))) zl49) (loopK L b44_24 K) t A) (P44_24 : Rec → Nat → Nat → Nat → Nat → (Option Addr) → Nat → Nat → Int → Int → Int → Int → Int → Int → AMem → Res) (hP44_24 : P44_24 = fun (L : Rec) (x0 : Nat) (x1 : Nat) (x2 : Nat) (x6 : Nat) (x16 : Option Addr) (x16n : Nat) (x16c : Nat) (x17 : Int) (x18 : Int) (x23_0 : Int) (x23_1 : Int) (x23_2 : Int) (x24 : Int) (M : AMem) => L.loop b44_24 (blockK 2 (blockK 1 (seqK (code L (.clear zl50 c44_41) (postK zl50 (loopK L b44_10 (blockK 0 (seqK (code L (.clear zl51 c44_42) (retK [])) (retK [])))))) (postK zl50 (loopK L b44_10 (blockK 0 (seqK (code L (.clear zl51 c44_42) (retK [])) (retK [])))))))) (s44_24 x0 x1 x2 x6 x16 x16n x16c x17 x18 x23_0 x23_1 x23_2 x24 M) M) (P44_40 : Rec → Nat → Nat → Nat → Nat → (Option Addr) → Nat → Nat → Int → Int → Int → Int → Int → Int → AMem → Res) (hP44_40 : P44_40 = fun (L : Rec) (x0 : Nat) (x1 : Nat) (x2 : Nat) (x6 : Nat) (x16 : Option Addr) (x16n : Nat) (x16c : Nat) (x17 : Int) (x18 : Int) (x23_0 : Int) (x23_1 : Int) (x23_2 : Int) (x24 : Int) (M : AMem) => code L c44_40 (postK zl49 (loopK L b44_24 (blockK 2 (blockK 1 (seqK (code L (.clear zl50 c44_41) (postK zl50 (loopK L b44_10 (blockK 0 (seqK (code L (.clear zl51 c44_42) (retK [])) (retK [])))))) (postK zl50 (loopK L b44_10 (blockK 0 (seqK (code L (.clear zl51 c44_42) (retK [])) (retK [])))))))))) (s44_40 x0 x1 x2 x6 x16 x16n x16c x17 x18 x23_0 x23_1 x23_2 x24 M) M) (P44_41 : Rec → Nat → Nat → Nat → (Option Addr) → Nat → Nat → Int → Int → AMem → Res) (hP44_41 : P44_41 = fun (L : Rec) (x0 : Nat) (x1 : Nat) (x2 : Nat) (x16 : Option Addr) (x16n : Nat) (x16c : Nat) (x17 : Int) (x18 : Int) (M : AMem) => code L c44_41 (postK zl50 (loopK L b44_10 (blockK 0 (seqK (code L (.clear zl51 c44_42) (retK [])) (retK []))))) (s44_41 x0 x1 x2 x16 x16n x16c x17 x18 M) M) (x0 : Nat) (x1 : Nat) (x2 : Nat) (x6 : Nat) (x16 : Option Addr) (x16n : Nat) (x16c : Nat) (x17 : Int) (x18 : Int) (x23_0 : Int) (x23_1 : Int) (x23_2 : Int) (x24 : Int) (M : AMem) : P44_24 L x0 x1 x2 x6 x16 x16n x16c x17 x18 x23_0 x23_1 x23_2 x24 M =
  (if (decide (x24 < 3)) = true
    then (if (0 : Int) ≤ x24 ∧ x24 < 3
      then (Option.bind (([x23_0, x23_1, x23_2] : List Int)[((Int.toNat x24) * 1)]?) fun x_1 =>
        (if (x_1 != 0) = true
        then (Option.bind (intOf? .i64 (AMem.ld M x1 0)) fun x_2 =>
          (Option.bind (intOf? .i64 (AMem.ld M x1 1)) fun x_3 =>
          (Option.bind (intOf? .i64 (AMem.ld M x6 0)) fun x_4 =>
          (Option.bind (L.call 30 [.agg #[.int .i64 x_2, .int .i64 x_3], .int .i64 x_4, .int .i64 x24] []) fun r_5 =>
          (Option.bind (intOf? .i64 (some r_5.1)) fun x_6 =>
          (Option.bind (L.round x0 [.agg #[.int .i64 x_6, .int .u64 x_1]] M) fun r_7 =>
          (Option.bind (boolOf? (some r_7.1)) fun q_8 =>
          (if (!q_8) = true
          then some (.tuple #[], r_7.2)
          else P44_40 L x0 x1 x2 x6 x16 x16n x16c x17 x18 x23_0 x23_1 x23_2 x24 r_7.2))))))))
        else P44_40 L x0 x1 x2 x6 x16 x16n x16c x17 x18 x23_0 x23_1 x23_2 x24 M))
      else none)
    else P44_41 L x0 x1 x2 x16 x16n x16c x17 x18 M) := by
  subst hP44_24; subst hP44_40; subst hP44_41; exact (hb (blockK 2 (blockK 1 (seqK (code L (.clear zl50 c44_41) (postK zl50 (loopK L b44_10 (blockK 0 (seqK (code L (.clear zl51 c44_42) (retK [])) (retK [])))))) (postK zl50 (loopK L b44_10 (blockK 0 (seqK (code L (.clear zl51 c44_42) (retK [])) (retK [])))))))) (s44_24 x0 x1 x2 x6 x16 x16n x16c x17 x18 x23_0 x23_1 x23_2 x24 M) M).trans (by kernel_rfl)
theorem P44_24_eq (L : Rec) (hL : ∀ b K t A, L.loop b K t A = code L b (loopK L b K) t A) (x0 : Nat) (x1 : Nat) (x2 : Nat) (x6 : Nat) (x16 : Option Addr) (x16n : Nat) (x16c : Nat) (x17 : Int) (x18 : Int) (x23_0 : Int) (x23_1 : Int) (x23_2 : Int) (x24 : Int) (M : AMem) : P44_24 L x0 x1 x2 x6 x16 x16n x16c x17 x18 x23_0 x23_1 x23_2 x24 M =
  (if (decide (x24 < 3)) = true
    then (if (0 : Int) ≤ x24 ∧ x24 < 3
      then (Option.bind (([x23_0, x23_1, x23_2] : List Int)[((Int.toNat x24) * 1)]?) fun x_1 =>
        (if (x_1 != 0) = true
        then (Option.bind (intOf? .i64 (AMem.ld M x1 0)) fun x_2 =>
          (Option.bind (intOf? .i64 (AMem.ld M x1 1)) fun x_3 =>
          (Option.bind (intOf? .i64 (AMem.ld M x6 0)) fun x_4 =>
          (Option.bind (L.call 30 [.agg #[.int .i64 x_2, .int .i64 x_3], .int .i64 x_4, .int .i64 x24] []) fun r_5 =>
          (Option.bind (intOf? .i64 (some r_5.1)) fun x_6 =>
          (Option.bind (L.round x0 [.agg #[.int .i64 x_6, .int .u64 x_1]] M) fun r_7 =>
          (Option.bind (boolOf? (some r_7.1)) fun q_8 =>
          (if (!q_8) = true
          then some (.tuple #[], r_7.2)
          else P44_40 L x0 x1 x2 x6 x16 x16n x16c x17 x18 x23_0 x23_1 x23_2 x24 r_7.2))))))))
        else P44_40 L x0 x1 x2 x6 x16 x16n x16c x17 x18 x23_0 x23_1 x23_2 x24 M))
      else none)
    else P44_41 L x0 x1 x2 x16 x16n x16c x17 x18 M) := QP44_24_eq L b44_10 b44_24 c44_40 c44_41 c44_42 (hL b44_24) P44_24 (Classical.choose_spec XP44_24) P44_40 (Classical.choose_spec XP44_40) P44_41 (Classical.choose_spec XP44_41) x0 x1 x2 x6 x16 x16n x16c x17 x18 x23_0 x23_1 x23_2 x24 M
theorem QP44_42_eq (L : Rec) (P44_42 : Rec → Nat → Nat → Nat → AMem → Res) (hP44_42 : P44_42 = fun (L : Rec) (x0 : Nat) (x1 : Nat) (x2 : Nat) (M : AMem) => code L (.ops o44_42) (retK []) (s44_42 x0 x1 x2 M) M) (x0 : Nat) (x1 : Nat) (x2 : Nat) (M : AMem) : P44_42 L x0 x1 x2 M =
  (Option.bind (intOf? .i64 (AMem.ld M x1 0)) fun x_1 =>
    (Option.bind (intOf? .i64 (AMem.ld M x1 1)) fun x_2 =>
    (Option.bind (intOf? .i64 (AMem.ld M x2 0)) fun x_3 =>
    (Option.bind (L.call 45 [.agg #[.int .i64 x_1, .int .i64 x_2], .int .i64 x_3] []) fun r_4 =>
    (Option.bind (intOf? .i64 (some r_4.1)) fun x_5 =>
    (Option.bind (L.round x0 [.agg #[.int .i64 x_5, .int .u64 1]] M) fun r_6 =>
    (Option.bind (boolOf? (some r_6.1)) fun q_7 =>
    some (.tuple #[], r_6.2)))))))) := by
  subst hP44_42; kernel_rfl
theorem P44_42_eq (L : Rec) (x0 : Nat) (x1 : Nat) (x2 : Nat) (M : AMem) : P44_42 L x0 x1 x2 M =
  (Option.bind (intOf? .i64 (AMem.ld M x1 0)) fun x_1 =>
    (Option.bind (intOf? .i64 (AMem.ld M x1 1)) fun x_2 =>
    (Option.bind (intOf? .i64 (AMem.ld M x2 0)) fun x_3 =>
    (Option.bind (L.call 45 [.agg #[.int .i64 x_1, .int .i64 x_2], .int .i64 x_3] []) fun r_4 =>
    (Option.bind (intOf? .i64 (some r_4.1)) fun x_5 =>
    (Option.bind (L.round x0 [.agg #[.int .i64 x_5, .int .u64 1]] M) fun r_6 =>
    (Option.bind (boolOf? (some r_6.1)) fun q_7 =>
    some (.tuple #[], r_6.2)))))))) := QP44_42_eq L P44_42 (Classical.choose_spec XP44_42) x0 x1 x2 M
theorem QP44_40_eq (L : Rec) (b44_10 b44_24 c44_41 c44_42 : ACode) (P44_24 : Rec → Nat → Nat → Nat → Nat → (Option Addr) → Nat → Nat → Int → Int → Int → Int → Int → Int → AMem → Res) (hP44_24 : P44_24 = fun (L : Rec) (x0 : Nat) (x1 : Nat) (x2 : Nat) (x6 : Nat) (x16 : Option Addr) (x16n : Nat) (x16c : Nat) (x17 : Int) (x18 : Int) (x23_0 : Int) (x23_1 : Int) (x23_2 : Int) (x24 : Int) (M : AMem) => L.loop b44_24 (blockK 2 (blockK 1 (seqK (code L (.clear zl50 c44_41) (postK zl50 (loopK L b44_10 (blockK 0 (seqK (code L (.clear zl51 c44_42) (retK [])) (retK [])))))) (postK zl50 (loopK L b44_10 (blockK 0 (seqK (code L (.clear zl51 c44_42) (retK [])) (retK [])))))))) (s44_24 x0 x1 x2 x6 x16 x16n x16c x17 x18 x23_0 x23_1 x23_2 x24 M) M) (P44_40 : Rec → Nat → Nat → Nat → Nat → (Option Addr) → Nat → Nat → Int → Int → Int → Int → Int → Int → AMem → Res) (hP44_40 : P44_40 = fun (L : Rec) (x0 : Nat) (x1 : Nat) (x2 : Nat) (x6 : Nat) (x16 : Option Addr) (x16n : Nat) (x16c : Nat) (x17 : Int) (x18 : Int) (x23_0 : Int) (x23_1 : Int) (x23_2 : Int) (x24 : Int) (M : AMem) => code L (.ops o44_40) (postK zl49 (loopK L b44_24 (blockK 2 (blockK 1 (seqK (code L (.clear zl50 c44_41) (postK zl50 (loopK L b44_10 (blockK 0 (seqK (code L (.clear zl51 c44_42) (retK [])) (retK [])))))) (postK zl50 (loopK L b44_10 (blockK 0 (seqK (code L (.clear zl51 c44_42) (retK [])) (retK [])))))))))) (s44_40 x0 x1 x2 x6 x16 x16n x16c x17 x18 x23_0 x23_1 x23_2 x24 M) M) (x0 : Nat) (x1 : Nat) (x2 : Nat) (x6 : Nat) (x16 : Option Addr) (x16n : Nat) (x16c : Nat) (x17 : Int) (x18 : Int) (x23_0 : Int) (x23_1 : Int) (x23_2 : Int) (x24 : Int) (M : AMem) : P44_40 L x0 x1 x2 x6 x16 x16n x16c x17 x18 x23_0 x23_1 x23_2 x24 M =
  P44_24 L x0 x1 x2 x6 x16 x16n x16c x17 x18 x23_0 x23_1 x23_2 (IntKind.wrap .i64 (x24 + 1)) M := by
  subst hP44_24; subst hP44_40; kernel_rfl
theorem P44_40_eq (L : Rec) (x0 : Nat) (x1 : Nat) (x2 : Nat) (x6 : Nat) (x16 : Option Addr) (x16n : Nat) (x16c : Nat) (x17 : Int) (x18 : Int) (x23_0 : Int) (x23_1 : Int) (x23_2 : Int) (x24 : Int) (M : AMem) : P44_40 L x0 x1 x2 x6 x16 x16n x16c x17 x18 x23_0 x23_1 x23_2 x24 M =
  P44_24 L x0 x1 x2 x6 x16 x16n x16c x17 x18 x23_0 x23_1 x23_2 (IntKind.wrap .i64 (x24 + 1)) M := QP44_40_eq L b44_10 b44_24 c44_41 c44_42 P44_24 (Classical.choose_spec XP44_24) P44_40 (Classical.choose_spec XP44_40) x0 x1 x2 x6 x16 x16n x16c x17 x18 x23_0 x23_1 x23_2 x24 M
theorem QP44_41_eq (L : Rec) (b44_10 c44_42 : ACode) (P44_10 : Rec → Nat → Nat → Nat → (Option Addr) → Nat → Nat → Int → Int → AMem → Res) (hP44_10 : P44_10 = fun (L : Rec) (x0 : Nat) (x1 : Nat) (x2 : Nat) (x16 : Option Addr) (x16n : Nat) (x16c : Nat) (x17 : Int) (x18 : Int) (M : AMem) => L.loop b44_10 (blockK 0 (seqK (code L (.clear zl51 c44_42) (retK [])) (retK []))) (s44_10 x0 x1 x2 x16 x16n x16c x17 x18 M) M) (P44_41 : Rec → Nat → Nat → Nat → (Option Addr) → Nat → Nat → Int → Int → AMem → Res) (hP44_41 : P44_41 = fun (L : Rec) (x0 : Nat) (x1 : Nat) (x2 : Nat) (x16 : Option Addr) (x16n : Nat) (x16c : Nat) (x17 : Int) (x18 : Int) (M : AMem) => code L (.ops o44_41) (postK zl50 (loopK L b44_10 (blockK 0 (seqK (code L (.clear zl51 c44_42) (retK [])) (retK []))))) (s44_41 x0 x1 x2 x16 x16n x16c x17 x18 M) M) (x0 : Nat) (x1 : Nat) (x2 : Nat) (x16 : Option Addr) (x16n : Nat) (x16c : Nat) (x17 : Int) (x18 : Int) (M : AMem) : P44_41 L x0 x1 x2 x16 x16n x16c x17 x18 M =
  P44_10 L x0 x1 x2 x16 x16n x16c x17 (IntKind.wrap .i64 (x18 + 1)) M := by
  subst hP44_10; subst hP44_41; kernel_rfl
theorem P44_41_eq (L : Rec) (x0 : Nat) (x1 : Nat) (x2 : Nat) (x16 : Option Addr) (x16n : Nat) (x16c : Nat) (x17 : Int) (x18 : Int) (M : AMem) : P44_41 L x0 x1 x2 x16 x16n x16c x17 x18 M =
  P44_10 L x0 x1 x2 x16 x16n x16c x17 (IntKind.wrap .i64 (x18 + 1)) M := QP44_41_eq L b44_10 c44_42 P44_10 (Classical.choose_spec XP44_10) P44_41 (Classical.choose_spec XP44_41) x0 x1 x2 x16 x16n x16c x17 x18 M
theorem QE44 (L : Rec) (b44_10 c44_42 : ACode) (P44_10 : Rec → Nat → Nat → Nat → (Option Addr) → Nat → Nat → Int → Int → AMem → Res) (hP44_10 : P44_10 = fun (L : Rec) (x0 : Nat) (x1 : Nat) (x2 : Nat) (x16 : Option Addr) (x16n : Nat) (x16c : Nat) (x17 : Int) (x18 : Int) (M : AMem) => L.loop b44_10 (blockK 0 (seqK (code L (.clear zl51 c44_42) (retK [])) (retK []))) (s44_10 x0 x1 x2 x16 x16n x16c x17 x18 M) M) (x0 : Nat) (x1 : Nat) (x2 : Nat) (x3 : Nat) (M : AMem) : enterF L ⟨50, [], .seq (.seq (.ops o44_2) (.cond (.tmp 15) (.ret) (.skip))) (.seq (.seq (.ops o44_8) (.block 0 (.clear zl50 (.loop b44_10)))) (.clear zl51 c44_42))⟩ [.func (.yield x0) #[] #[], .pointer (some ⟨x1, 0, none⟩), .pointer (some ⟨x2, 0, none⟩), .pointer (some ⟨x3, 0, none⟩)] M =
  (Option.bind (intOf? .i64 (AMem.ld M x1 0)) fun x_1 =>
    (Option.bind (intOf? .i64 (AMem.ld M x1 1)) fun x_2 =>
    (Option.bind (intOf? .i64 (AMem.ld M x2 0)) fun x_3 =>
    (Option.bind (L.call 34 [.agg #[.int .i64 x_1, .int .i64 x_2], .int .i64 x_3] []) fun r_4 =>
    (Option.bind (intOf? .i64 (some r_4.1)) fun x_5 =>
    (Option.bind (L.round x0 [.agg #[.int .i64 x_5, .int .u64 1]] M) fun r_6 =>
    (Option.bind (boolOf? (some r_6.1)) fun q_7 =>
    (if (!q_7) = true
    then some (.tuple #[], r_6.2)
    else (Option.bind (sliceOf? (AMem.ld r_6.2 x3 0)) fun s_8 =>
      P44_10 L x0 x1 x2 s_8.1 s_8.2.1 s_8.2.2 (Int.ofNat s_8.2.1) 0 r_6.2))))))))) := by
  subst hP44_10; kernel_rfl
theorem E44 (L : Rec) (x0 : Nat) (x1 : Nat) (x2 : Nat) (x3 : Nat) (M : AMem) : enterF L a44 [.func (.yield x0) #[] #[], .pointer (some ⟨x1, 0, none⟩), .pointer (some ⟨x2, 0, none⟩), .pointer (some ⟨x3, 0, none⟩)] M =
  (Option.bind (intOf? .i64 (AMem.ld M x1 0)) fun x_1 =>
    (Option.bind (intOf? .i64 (AMem.ld M x1 1)) fun x_2 =>
    (Option.bind (intOf? .i64 (AMem.ld M x2 0)) fun x_3 =>
    (Option.bind (L.call 34 [.agg #[.int .i64 x_1, .int .i64 x_2], .int .i64 x_3] []) fun r_4 =>
    (Option.bind (intOf? .i64 (some r_4.1)) fun x_5 =>
    (Option.bind (L.round x0 [.agg #[.int .i64 x_5, .int .u64 1]] M) fun r_6 =>
    (Option.bind (boolOf? (some r_6.1)) fun q_7 =>
    (if (!q_7) = true
    then some (.tuple #[], r_6.2)
    else (Option.bind (sliceOf? (AMem.ld r_6.2 x3 0)) fun s_8 =>
      P44_10 L x0 x1 x2 s_8.1 s_8.2.1 s_8.2.2 (Int.ofNat s_8.2.1) 0 r_6.2))))))))) := QE44 L b44_10 c44_42 P44_10 (Classical.choose_spec XP44_10) x0 x1 x2 x3 M
/-! #### flush.Flush.Left -/
theorem E14 (L : Rec) (x0 : Option Addr) (M : AMem) : enterF L a14 [.pointer x0] M =
  (if (Option.isNone x0) = true
    then some (.int .i64 0, M)
    else (match x0 with
      | some a_1 => (Option.bind (sliceOf? (AMem.ld M a_1.block (a_1.off + 1))) fun s_2 =>
        (match x0 with
        | some a_3 => (Option.bind (intOf? .i64 (AMem.ld M a_3.block (a_3.off + 2))) fun x_4 =>
          some (.int .i64 (IntKind.wrap .i64 ((Int.ofNat s_2.2.1) - x_4)), M))
        | none => none))
      | none => none)) := by kernel_rfl
/-! #### flush.Flush.Step -/
noncomputable def k13_36 (L : Rec) : KT := retK [.tmp 4]
def s13_36 (M : AMem) : List Value := [junk, junk, junk, junk, junk, junk, junk, junk, junk, junk, junk, junk, junk, junk, junk, junk, junk, junk, junk, junk, junk, junk, junk, junk, junk, junk, junk, junk, junk, junk, junk, junk, junk, junk, junk, junk, junk, junk, junk, junk, junk, junk, junk, junk, junk, junk, junk, junk, junk, junk, junk, junk, junk, junk, junk, junk, junk, junk, junk, junk, junk, junk, junk, junk, junk, junk, junk, junk, junk, junk, junk, junk, junk, junk, junk, junk, junk, junk]
theorem XP13_36 : ∃ P : Rec → AMem → Res, P = fun (L : Rec) (M : AMem) => code L c13_36 (k13_36 L) (s13_36 M) M := ⟨_, rfl⟩
noncomputable def P13_36 : Rec → AMem → Res := Classical.choose XP13_36
theorem QP13_36_eq (L : Rec) (P13_36 : Rec → AMem → Res) (hP13_36 : P13_36 = fun (L : Rec) (M : AMem) => code L (.seq (.ops o13_37) (.ret)) (retK [.tmp 4]) (s13_36 M) M) (M : AMem) : P13_36 L M =
  some (.bool true, M) := by
  subst hP13_36; kernel_rfl
theorem P13_36_eq (L : Rec) (M : AMem) : P13_36 L M =
  some (.bool true, M) := QP13_36_eq L P13_36 (Classical.choose_spec XP13_36) M
theorem QE13 (L : Rec) (c13_36 : ACode) (P13_36 : Rec → AMem → Res) (hP13_36 : P13_36 = fun (L : Rec) (M : AMem) => code L c13_36 (retK [.tmp 4]) (s13_36 M) M) (x0 : Option Addr) (x1 : Option Addr) (M : AMem) : enterF L ⟨78, [.tmp 4], .seq (.ops o13_1) (.seq (.seq (.draw [] 0 o13_4 [(9, 5)]) (.cond (.tmp 17) (.seq (.ops o13_7) (.ret)) (.skip))) (.seq (.draw [] 0 o13_11 [(3, 10), (7, 10), (9, 10)]) (.seq (.seq (.ops o13_14) (.cond (.tmp 32) (.seq (.ops o13_17) (.seq (.ops o13_19) (.ret))) (.skip))) (.seq (.ops o13_23) (.seq (.seq (.draw [] 0 o13_26 []) (.cond (.tmp 63) (.seq (.ops o13_29) (.seq (.ops o13_31) (.ret))) (.skip))) (.seq (.ops o13_35) (.clear zl32 c13_36)))))))⟩ [.pointer x0, .pointer x1] M =
  (Option.bind (L.call 14 [.pointer x0] M) fun r_1 =>
    (Option.bind (intOf? .i64 (some r_1.1)) fun x_2 =>
    (if (x_2 == 0) = true
    then some (.bool false, r_1.2)
    else (Option.bind (L.call 32 [.pointer x1] r_1.2) fun r_3 =>
      (Option.bind (intOf? .i64 (some r_3.1)) fun x_4 =>
      (match x0 with
      | some a_5 => (Option.bind (intOf? .i64 (AMem.ld r_3.2 a_5.block a_5.off)) fun x_6 =>
        (if chkOk [(9, 5)] [(9, a_5.block)] [(5, (r_1.2, r_3.2))] = true
        then (if (x_4 != x_6) = true
          then some (.bool false, r_3.2)
          else (match x0 with
            | some a_7 => (Option.bind (sliceOf? (AMem.ld r_3.2 a_7.block (a_7.off + 1))) fun s_8 =>
              (match x0 with
              | some a_9 => (Option.bind (intOf? .i64 (AMem.ld r_3.2 a_9.block (a_9.off + 2))) fun x_10 =>
                (match s_8.1 with
                | some a_11 => (if (0 : Int) ≤ x_10 ∧ x_10 < (Int.ofNat s_8.2.1)
                  then (Option.bind (intOf? .i64 (AMem.ld r_3.2 a_11.block (a_11.off + ((Int.toNat x_10) * 2)))) fun x_12 =>
                    (Option.bind (intOf? .u64 (AMem.ld r_3.2 a_11.block ((a_11.off + ((Int.toNat x_10) * 2)) + 1))) fun x_13 =>
                    (Option.bind (AMem.wr (r_3.2 ++ [AObj.cells [.int .i64 0, .int .u64 0] ⟨false, 0⟩]) (List.length r_3.2) 0 [.int .i64 x_12, .int .u64 x_13]) fun M_14 =>
                    (if chkOk [(3, 10), (7, 10), (9, 10)] [(9, a_11.block), (7, a_9.block), (3, a_7.block)] [(10, (r_3.2, (r_3.2 ++ [AObj.cells [.int .i64 0, .int .u64 0] ⟨false, 0⟩])))] = true
                    then (match x0 with
                      | some a_15 => (Option.bind (boolOf? (AMem.ld M_14 a_15.block (a_15.off + 3))) fun q_16 =>
                        (if (!q_16) = true
                        then (Option.bind (intOf? .i64 (AMem.ld M_14 (List.length r_3.2) 0)) fun x_17 =>
                          (Option.bind (L.call 29 [.pointer x1, .int .i64 x_17] M_14) fun r_18 =>
                          (Option.bind (tupOf? 2 r_18.1) fun cs_19 =>
                          (Option.bind (cs_19[0]?) fun u_20 =>
                          (Option.bind (intOf? .u64 (some u_20)) fun x_21 =>
                          (Option.bind (cs_19[1]?) fun u_22 =>
                          (Option.bind (boolOf? (some u_22)) fun q_23 =>
                          (match x0 with
                          | some a_24 => (Option.bind (AMem.wr r_18.2 a_24.block (a_24.off + 4) [.int .u64 x_21]) fun M_25 =>
                            (match x0 with
                            | some a_26 => (Option.bind (AMem.wr M_25 a_26.block (a_26.off + 3) [.bool q_23]) fun M_27 =>
                              some (.bool true, M_27))
                            | none => none))
                          | none => none))))))))
                        else (match x0 with
                          | some a_28 => (Option.bind (AMem.wr M_14 a_28.block (a_28.off + 3) [.bool false]) fun M_29 =>
                            (Option.bind (intOf? .i64 (AMem.ld M_29 (List.length r_3.2) 0)) fun x_30 =>
                            (match x0 with
                            | some a_31 => (Option.bind (intOf? .u64 (AMem.ld M_29 a_31.block (a_31.off + 4))) fun x_32 =>
                              (match x0 with
                              | some a_33 => (Option.bind (intOf? .u64 (AMem.ld M_29 a_33.block (a_33.off + 4))) fun x_34 =>
                                (Option.bind (intOf? .u64 (AMem.ld M_29 (List.length r_3.2) 1)) fun x_35 =>
                                (Option.bind (L.call 33 [.pointer x1, .int .i64 x_30, .int .u64 x_32, .int .u64 (IntKind.wrap .u64 (x_34 + x_35))] M_29) fun r_36 =>
                                (Option.bind (boolOf? (some r_36.1)) fun q_37 =>
                                (if q_37 = true
                                then (match x0 with
                                  | some a_38 => (Option.bind (intOf? .i64 (AMem.ld r_36.2 a_38.block (a_38.off + 2))) fun x_39 =>
                                    (match x0 with
                                    | some a_40 => (Option.bind (AMem.wr r_36.2 a_40.block (a_40.off + 2) [.int .i64 (IntKind.wrap .i64 (x_39 + 1))]) fun M_41 =>
                                      some (.bool true, M_41))
                                    | none => none))
                                  | none => none)
                                else (match x0 with
                                  | some a_42 => (Option.bind (intOf? .i64 (AMem.ld r_36.2 a_42.block (a_42.off + 5))) fun x_43 =>
                                    (match x0 with
                                    | some a_44 => (Option.bind (AMem.wr r_36.2 a_44.block (a_44.off + 5) [.int .i64 (IntKind.wrap .i64 (x_43 + 1))]) fun M_45 =>
                                      P13_36 L M_45)
                                    | none => none))
                                  | none => none))))))
                              | none => none))
                            | none => none)))
                          | none => none)))
                      | none => none)
                    else none))))
                  else none)
                | none => none))
              | none => none))
            | none => none))
        else none))
      | none => none)))))) := by
  subst hP13_36; kernel_rfl
theorem E13 (L : Rec) (x0 : Option Addr) (x1 : Option Addr) (M : AMem) : enterF L a13 [.pointer x0, .pointer x1] M =
  (Option.bind (L.call 14 [.pointer x0] M) fun r_1 =>
    (Option.bind (intOf? .i64 (some r_1.1)) fun x_2 =>
    (if (x_2 == 0) = true
    then some (.bool false, r_1.2)
    else (Option.bind (L.call 32 [.pointer x1] r_1.2) fun r_3 =>
      (Option.bind (intOf? .i64 (some r_3.1)) fun x_4 =>
      (match x0 with
      | some a_5 => (Option.bind (intOf? .i64 (AMem.ld r_3.2 a_5.block a_5.off)) fun x_6 =>
        (if chkOk [(9, 5)] [(9, a_5.block)] [(5, (r_1.2, r_3.2))] = true
        then (if (x_4 != x_6) = true
          then some (.bool false, r_3.2)
          else (match x0 with
            | some a_7 => (Option.bind (sliceOf? (AMem.ld r_3.2 a_7.block (a_7.off + 1))) fun s_8 =>
              (match x0 with
              | some a_9 => (Option.bind (intOf? .i64 (AMem.ld r_3.2 a_9.block (a_9.off + 2))) fun x_10 =>
                (match s_8.1 with
                | some a_11 => (if (0 : Int) ≤ x_10 ∧ x_10 < (Int.ofNat s_8.2.1)
                  then (Option.bind (intOf? .i64 (AMem.ld r_3.2 a_11.block (a_11.off + ((Int.toNat x_10) * 2)))) fun x_12 =>
                    (Option.bind (intOf? .u64 (AMem.ld r_3.2 a_11.block ((a_11.off + ((Int.toNat x_10) * 2)) + 1))) fun x_13 =>
                    (Option.bind (AMem.wr (r_3.2 ++ [AObj.cells [.int .i64 0, .int .u64 0] ⟨false, 0⟩]) (List.length r_3.2) 0 [.int .i64 x_12, .int .u64 x_13]) fun M_14 =>
                    (if chkOk [(3, 10), (7, 10), (9, 10)] [(9, a_11.block), (7, a_9.block), (3, a_7.block)] [(10, (r_3.2, (r_3.2 ++ [AObj.cells [.int .i64 0, .int .u64 0] ⟨false, 0⟩])))] = true
                    then (match x0 with
                      | some a_15 => (Option.bind (boolOf? (AMem.ld M_14 a_15.block (a_15.off + 3))) fun q_16 =>
                        (if (!q_16) = true
                        then (Option.bind (intOf? .i64 (AMem.ld M_14 (List.length r_3.2) 0)) fun x_17 =>
                          (Option.bind (L.call 29 [.pointer x1, .int .i64 x_17] M_14) fun r_18 =>
                          (Option.bind (tupOf? 2 r_18.1) fun cs_19 =>
                          (Option.bind (cs_19[0]?) fun u_20 =>
                          (Option.bind (intOf? .u64 (some u_20)) fun x_21 =>
                          (Option.bind (cs_19[1]?) fun u_22 =>
                          (Option.bind (boolOf? (some u_22)) fun q_23 =>
                          (match x0 with
                          | some a_24 => (Option.bind (AMem.wr r_18.2 a_24.block (a_24.off + 4) [.int .u64 x_21]) fun M_25 =>
                            (match x0 with
                            | some a_26 => (Option.bind (AMem.wr M_25 a_26.block (a_26.off + 3) [.bool q_23]) fun M_27 =>
                              some (.bool true, M_27))
                            | none => none))
                          | none => none))))))))
                        else (match x0 with
                          | some a_28 => (Option.bind (AMem.wr M_14 a_28.block (a_28.off + 3) [.bool false]) fun M_29 =>
                            (Option.bind (intOf? .i64 (AMem.ld M_29 (List.length r_3.2) 0)) fun x_30 =>
                            (match x0 with
                            | some a_31 => (Option.bind (intOf? .u64 (AMem.ld M_29 a_31.block (a_31.off + 4))) fun x_32 =>
                              (match x0 with
                              | some a_33 => (Option.bind (intOf? .u64 (AMem.ld M_29 a_33.block (a_33.off + 4))) fun x_34 =>
                                (Option.bind (intOf? .u64 (AMem.ld M_29 (List.length r_3.2) 1)) fun x_35 =>
                                (Option.bind (L.call 33 [.pointer x1, .int .i64 x_30, .int .u64 x_32, .int .u64 (IntKind.wrap .u64 (x_34 + x_35))] M_29) fun r_36 =>
                                (Option.bind (boolOf? (some r_36.1)) fun q_37 =>
                                (if q_37 = true
                                then (match x0 with
                                  | some a_38 => (Option.bind (intOf? .i64 (AMem.ld r_36.2 a_38.block (a_38.off + 2))) fun x_39 =>
                                    (match x0 with
                                    | some a_40 => (Option.bind (AMem.wr r_36.2 a_40.block (a_40.off + 2) [.int .i64 (IntKind.wrap .i64 (x_39 + 1))]) fun M_41 =>
                                      some (.bool true, M_41))
                                    | none => none))
                                  | none => none)
                                else (match x0 with
                                  | some a_42 => (Option.bind (intOf? .i64 (AMem.ld r_36.2 a_42.block (a_42.off + 5))) fun x_43 =>
                                    (match x0 with
                                    | some a_44 => (Option.bind (AMem.wr r_36.2 a_44.block (a_44.off + 5) [.int .i64 (IntKind.wrap .i64 (x_43 + 1))]) fun M_45 =>
                                      P13_36 L M_45)
                                    | none => none))
                                  | none => none))))))
                              | none => none))
                            | none => none)))
                          | none => none)))
                      | none => none)
                    else none))))
                  else none)
                | none => none))
              | none => none))
            | none => none))
        else none))
      | none => none)))))) := QE13 L c13_36 P13_36 (Classical.choose_spec XP13_36) x0 x1 M
/-! #### flush.Flush.Done -/
theorem E15 (L : Rec) (x0 : Option Addr) (M : AMem) : enterF L a15 [.pointer x0] M =
  (Option.bind (L.call 14 [.pointer x0] M) fun r_1 =>
    (Option.bind (intOf? .i64 (some r_1.1)) fun x_2 =>
    some (.bool (x_2 == 0), r_1.2))) := by kernel_rfl
/-! #### flush.Flush.Begun -/
theorem E27 (L : Rec) (x0 : Option Addr) (M : AMem) : enterF L a27 [.pointer x0] M =
  (if (!(Option.isNone x0)) = true
    then (match x0 with
      | some a_1 => (Option.bind (intOf? .i64 (AMem.ld M a_1.block (a_1.off + 2))) fun x_2 =>
        some (.bool (decide (x_2 > 0)), M))
      | none => none)
    else some (.bool false, M)) := by kernel_rfl
/-! #### flush.Flush.Lost -/
theorem E18 (L : Rec) (x0 : Option Addr) (M : AMem) : enterF L a18 [.pointer x0] M =
  (if (Option.isNone x0) = true
    then some (.int .i64 0, M)
    else (match x0 with
      | some a_1 => (Option.bind (intOf? .i64 (AMem.ld M a_1.block (a_1.off + 5))) fun x_2 =>
        some (.int .i64 x_2, M))
      | none => none)) := by kernel_rfl
/-! #### flush.Steps -/
noncomputable def k24_8 (L : Rec) : KT := blockK 0 (seqK (code L (.clear zl42 c24_40) (retK [.tmp 2])) (retK [.tmp 2]))
def s24_8 (x3 : Int) (x8 : Option Addr) (x8n : Nat) (x8c : Nat) (x9 : Int) (x10 : Int) (M : AMem) : List Value := [junk, junk, junk, .int .i64 x3, junk, junk, junk, junk, .slice x8 x8n x8c, .int .i64 x9, .int .i64 x10, junk, junk, junk, junk, junk, junk, junk, junk, junk, junk, junk, junk, junk, junk, junk, junk]
theorem XP24_8 : ∃ P : Rec → Int → (Option Addr) → Nat → Nat → Int → Int → AMem → Res, P = fun (L : Rec) (x3 : Int) (x8 : Option Addr) (x8n : Nat) (x8c : Nat) (x9 : Int) (x10 : Int) (M : AMem) => L.loop b24_8 (k24_8 L) (s24_8 x3 x8 x8n x8c x9 x10 M) M := ⟨_, rfl⟩
noncomputable def P24_8 : Rec → Int → (Option Addr) → Nat → Nat → Int → Int → AMem → Res := Classical.choose XP24_8
noncomputable def k24_22 (L : Rec) : KT := blockK 2 (blockK 1 (seqK (code L (.clear zl41 c24_39) (postK zl41 (loopK L b24_8 (blockK 0 (seqK (code L (.clear zl42 c24_40) (retK [.tmp 2])) (retK [.tmp 2])))))) (postK zl41 (loopK L b24_8 (blockK 0 (seqK (code L (.clear zl42 c24_40) (retK [.tmp 2])) (retK [.tmp 2])))))))
def s24_22 (x3 : Int) (x8 : Option Addr) (x8n : Nat) (x8c : Nat) (x9 : Int) (x10 : Int) (x15_0 : Int) (x15_1 : Int) (x15_2 : Int) (x16 : Int) (M : AMem) : List Value := [junk, junk, junk, .int .i64 x3, junk, junk, junk, junk, .slice x8 x8n x8c, .int .i64 x9, .int .i64 x10, junk, junk, junk, junk, .agg #[.int .u64 x15_0, .int .u64 x15_1, .int .u64 x15_2], .int .i64 x16, junk, junk, junk, junk, junk, junk, junk, junk, junk, junk]
theorem XP24_22 : ∃ P : Rec → Int → (Option Addr) → Nat → Nat → Int → Int → Int → Int → Int → Int → AMem → Res, P = fun (L : Rec) (x3 : Int) (x8 : Option Addr) (x8n : Nat) (x8c : Nat) (x9 : Int) (x10 : Int) (x15_0 : Int) (x15_1 : Int) (x15_2 : Int) (x16 : Int) (M : AMem) => L.loop b24_22 (k24_22 L) (s24_22 x3 x8 x8n x8c x9 x10 x15_0 x15_1 x15_2 x16 M) M := ⟨_, rfl⟩
noncomputable def P24_22 : Rec → Int → (Option Addr) → Nat → Nat → Int → Int → Int → Int → Int → Int → AMem → Res := Classical.choose XP24_22
noncomputable def k24_40 (L : Rec) : KT := retK [.tmp 2]
def s24_40 (x3 : Int) (M : AMem) : List Value := [junk, junk, junk, .int .i64 x3, junk, junk, junk, junk, junk, junk, junk, junk, junk, junk, junk, junk, junk, junk, junk, junk, junk, junk, junk, junk, junk, junk, junk]
theorem XP24_40 : ∃ P : Rec → Int → AMem → Res, P = fun (L : Rec) (x3 : Int) (M : AMem) => code L c24_40 (k24_40 L) (s24_40 x3 M) M := ⟨_, rfl⟩
noncomputable def P24_40 : Rec → Int → AMem → Res := Classical.choose XP24_40
noncomputable def k24_38 (L : Rec) : KT := postK zl40 (loopK L b24_22 (blockK 2 (blockK 1 (seqK (code L (.clear zl41 c24_39) (postK zl41 (loopK L b24_8 (blockK 0 (seqK (code L (.clear zl42 c24_40) (retK [.tmp 2])) (retK [.tmp 2])))))) (postK zl41 (loopK L b24_8 (blockK 0 (seqK (code L (.clear zl42 c24_40) (retK [.tmp 2])) (retK [.tmp 2])))))))))
def s24_38 (x3 : Int) (x8 : Option Addr) (x8n : Nat) (x8c : Nat) (x9 : Int) (x10 : Int) (x15_0 : Int) (x15_1 : Int) (x15_2 : Int) (x16 : Int) (M : AMem) : List Value := [junk, junk, junk, .int .i64 x3, junk, junk, junk, junk, .slice x8 x8n x8c, .int .i64 x9, .int .i64 x10, junk, junk, junk, junk, .agg #[.int .u64 x15_0, .int .u64 x15_1, .int .u64 x15_2], .int .i64 x16, junk, junk, junk, junk, junk, junk, junk, junk, junk, junk]
theorem XP24_38 : ∃ P : Rec → Int → (Option Addr) → Nat → Nat → Int → Int → Int → Int → Int → Int → AMem → Res, P = fun (L : Rec) (x3 : Int) (x8 : Option Addr) (x8n : Nat) (x8c : Nat) (x9 : Int) (x10 : Int) (x15_0 : Int) (x15_1 : Int) (x15_2 : Int) (x16 : Int) (M : AMem) => code L c24_38 (k24_38 L) (s24_38 x3 x8 x8n x8c x9 x10 x15_0 x15_1 x15_2 x16 M) M := ⟨_, rfl⟩
noncomputable def P24_38 : Rec → Int → (Option Addr) → Nat → Nat → Int → Int → Int → Int → Int → Int → AMem → Res := Classical.choose XP24_38
noncomputable def k24_39 (L : Rec) : KT := postK zl41 (loopK L b24_8 (blockK 0 (seqK (code L (.clear zl42 c24_40) (retK [.tmp 2])) (retK [.tmp 2]))))
def s24_39 (x3 : Int) (x8 : Option Addr) (x8n : Nat) (x8c : Nat) (x9 : Int) (x10 : Int) (M : AMem) : List Value := [junk, junk, junk, .int .i64 x3, junk, junk, junk, junk, .slice x8 x8n x8c, .int .i64 x9, .int .i64 x10, junk, junk, junk, junk, junk, junk, junk, junk, junk, junk, junk, junk, junk, junk, junk, junk]
theorem XP24_39 : ∃ P : Rec → Int → (Option Addr) → Nat → Nat → Int → Int → AMem → Res, P = fun (L : Rec) (x3 : Int) (x8 : Option Addr) (x8n : Nat) (x8c : Nat) (x9 : Int) (x10 : Int) (M : AMem) => code L c24_39 (k24_39 L) (s24_39 x3 x8 x8n x8c x9 x10 M) M := ⟨_, rfl⟩
noncomputable def P24_39 : Rec → Int → (Option Addr) → Nat → Nat → Int → Int → AMem → Res := Classical.choose XP24_39
theorem QP24_8_eq (L : Rec) (b24_22 b24_8 c24_39 c24_40 : ACode) (hb : ∀ K t A, L.loop b24_8 K t A = code L (.post (.seq (.ops o24_10) (.seq (.cond (.tmp 11) (.skip) (.exit 0)) (.seq (.block 1 (.seq (.ops o24_18) (.seq (.ops o24_20) (.block 2 (.clear zl40 (.loop b24_22)))))) (.clear zl41 c24_39)))) zl41) (loopK L b24_8 K) t A) (P24_8 : Rec → Int → (Option Addr) → Nat → Nat → Int → Int → AMem → Res) (hP24_8 : P24_8 = fun (L : Rec) (x3 : Int) (x8 : Option Addr) (x8n : Nat) (x8c : Nat) (x9 : Int) (x10 : Int) (M : AMem) => L.loop b24_8 (blockK 0 (seqK (code L (.clear zl42 c24_40) (retK [.tmp 2])) (retK [.tmp 2]))) (s24_8 x3 x8 x8n x8c x9 x10 M) M) (P24_22 : Rec → Int → (Option Addr) → Nat → Nat → Int → Int → Int → Int → Int → Int → AMem → Res) (hP24_22 : P24_22 = fun (L : Rec) (x3 : Int) (x8 : Option Addr) (x8n : Nat) (x8c : Nat) (x9 : Int) (x10 : Int) (x15_0 : Int) (x15_1 : Int) (x15_2 : Int) (x16 : Int) (M : AMem) => L.loop b24_22 (blockK 2 (blockK 1 (seqK (code L (.clear zl41 c24_39) (postK zl41 (loopK L b24_8 (blockK 0 (seqK (code L (.clear zl42 c24_40) (retK [.tmp 2])) (retK [.tmp 2])))))) (postK zl41 (loopK L b24_8 (blockK 0 (seqK (code L (.clear zl42 c24_40) (retK [.tmp 2])) (retK [.tmp 2])))))))) (s24_22 x3 x8 x8n x8c x9 x10 x15_0 x15_1 x15_2 x16 M) M) (P24_40 : Rec → Int → AMem → Res) (hP24_40 : P24_40 = fun (L : Rec) (x3 : Int) (M : AMem) => code L c24_40 (retK [.tmp 2]) (s24_40 x3 M) M) (x3 : Int) (x8 : Option Addr) (x8n : Nat) (x8c : Nat) (x9 : Int) (x10 : Int) (M : AMem) : P24_8 L x3 x8 x8n x8c x9 x10 M =
  (if (decide (x10 < x9)) = true
    then (match x8 with
      | some a_1 => (if (0 : Int) ≤ x10 ∧ x10 < (Int.ofNat x8n)
        then (Option.bind (intOf? .i64 (AMem.ld M a_1.block (a_1.off + ((Int.toNat x10) * 4)))) fun x_2 =>
          (Option.bind (intOf? .u64 (AMem.ld M a_1.block ((a_1.off + ((Int.toNat x10) * 4)) + 1))) fun x_3 =>
          (Option.bind (intOf? .u64 (AMem.ld M a_1.block ((a_1.off + ((Int.toNat x10) * 4)) + 2))) fun x_4 =>
          (Option.bind (intOf? .u64 (AMem.ld M a_1.block ((a_1.off + ((Int.toNat x10) * 4)) + 3))) fun x_5 =>
          (Option.bind (AMem.wr (M ++ [AObj.cells [.int .i64 0, .int .u64 0, .int .u64 0, .int .u64 0] ⟨false, 0⟩]) (List.length M) 0 [.int .i64 x_2, .int .u64 x_3, .int .u64 x_4, .int .u64 x_5]) fun M_6 =>
          (Option.bind (intOf? .u64 (AMem.ld M_6 (List.length M) 1)) fun x_7 =>
          (Option.bind (intOf? .u64 (AMem.ld M_6 (List.length M) 2)) fun x_8 =>
          (Option.bind (intOf? .u64 (AMem.ld M_6 (List.length M) 3)) fun x_9 =>
          P24_22 L x3 x8 x8n x8c x9 x10 x_7 x_8 x_9 0 M_6))))))))
        else none)
      | none => none)
    else P24_40 L x3 M) := by
  subst hP24_8; subst hP24_22; subst hP24_40; exact (hb (blockK 0 (seqK (code L (.clear zl42 c24_40) (retK [.tmp 2])) (retK [.tmp 2]))) (s24_8 x3 x8 x8n x8c x9 x10 M) M).trans (by kernel_rfl)
theorem P24_8_eq (L : Rec) (hL : ∀ b K t A, L.loop b K t A = code L b (loopK L b K) t A) (x3 : Int) (x8 : Option Addr) (x8n : Nat) (x8c : Nat) (x9 : Int) (x10 : Int) (M : AMem) : P24_8 L x3 x8 x8n x8c x9 x10 M =
  (if (decide (x10 < x9)) = true
    then (match x8 with
      | some a_1 => (if (0 : Int) ≤ x10 ∧ x10 < (Int.ofNat x8n)
        then (Option.bind (intOf? .i64 (AMem.ld M a_1.block (a_1.off + ((Int.toNat x10) * 4)))) fun x_2 =>
          (Option.bind (intOf? .u64 (AMem.ld M a_1.block ((a_1.off + ((Int.toNat x10) * 4)) + 1))) fun x_3 =>
          (Option.bind (intOf? .u64 (AMem.ld M a_1.block ((a_1.off + ((Int.toNat x10) * 4)) + 2))) fun x_4 =>
          (Option.bind (intOf? .u64 (AMem.ld M a_1.block ((a_1.off + ((Int.toNat x10) * 4)) + 3))) fun x_5 =>
          (Option.bind (AMem.wr (M ++ [AObj.cells [.int .i64 0, .int .u64 0, .int .u64 0, .int .u64 0] ⟨false, 0⟩]) (List.length M) 0 [.int .i64 x_2, .int .u64 x_3, .int .u64 x_4, .int .u64 x_5]) fun M_6 =>
          (Option.bind (intOf? .u64 (AMem.ld M_6 (List.length M) 1)) fun x_7 =>
          (Option.bind (intOf? .u64 (AMem.ld M_6 (List.length M) 2)) fun x_8 =>
          (Option.bind (intOf? .u64 (AMem.ld M_6 (List.length M) 3)) fun x_9 =>
          P24_22 L x3 x8 x8n x8c x9 x10 x_7 x_8 x_9 0 M_6))))))))
        else none)
      | none => none)
    else P24_40 L x3 M) := QP24_8_eq L b24_22 b24_8 c24_39 c24_40 (hL b24_8) P24_8 (Classical.choose_spec XP24_8) P24_22 (Classical.choose_spec XP24_22) P24_40 (Classical.choose_spec XP24_40) x3 x8 x8n x8c x9 x10 M
theorem QP24_22_eq (L : Rec) (b24_22 b24_8 c24_38 c24_39 c24_40 : ACode) (hb : ∀ K t A, L.loop b24_22 K t A = code L (.post (.seq (.ops o24_24) (.seq (.cond (.tmp 17) (.skip) (.exit 2)) (.seq (.block 3 (.seq (.ops o24_32) (.seq (.ops o24_34) (.cond (.tmp 20) (.ops o24_36) (.skip))))) (.clear zl40 c24_38)))) zl40) (loopK L b24_22 K) t A) (P24_22 : Rec → Int → (Option Addr) → Nat → Nat → Int → Int → Int → Int → Int → Int → AMem → Res) (hP24_22 : P24_22 = fun (L : Rec) (x3 : Int) (x8 : Option Addr) (x8n : Nat) (x8c : Nat) (x9 : Int) (x10 : Int) (x15_0 : Int) (x15_1 : Int) (x15_2 : Int) (x16 : Int) (M : AMem) => L.loop b24_22 (blockK 2 (blockK 1 (seqK (code L (.clear zl41 c24_39) (postK zl41 (loopK L b24_8 (blockK 0 (seqK (code L (.clear zl42 c24_40) (retK [.tmp 2])) (retK [.tmp 2])))))) (postK zl41 (loopK L b24_8 (blockK 0 (seqK (code L (.clear zl42 c24_40) (retK [.tmp 2])) (retK [.tmp 2])))))))) (s24_22 x3 x8 x8n x8c x9 x10 x15_0 x15_1 x15_2 x16 M) M) (P24_38 : Rec → Int → (Option Addr) → Nat → Nat → Int → Int → Int → Int → Int → Int → AMem → Res) (hP24_38 : P24_38 = fun (L : Rec) (x3 : Int) (x8 : Option Addr) (x8n : Nat) (x8c : Nat) (x9 : Int) (x10 : Int) (x15_0 : Int) (x15_1 : Int) (x15_2 : Int) (x16 : Int) (M : AMem) => code L c24_38 (postK zl40 (loopK L b24_22 (blockK 2 (blockK 1 (seqK (code L (.clear zl41 c24_39) (postK zl41 (loopK L b24_8 (blockK 0 (seqK (code L (.clear zl42 c24_40) (retK [.tmp 2])) (retK [.tmp 2])))))) (postK zl41 (loopK L b24_8 (blockK 0 (seqK (code L (.clear zl42 c24_40) (retK [.tmp 2])) (retK [.tmp 2])))))))))) (s24_38 x3 x8 x8n x8c x9 x10 x15_0 x15_1 x15_2 x16 M) M) (P24_39 : Rec → Int → (Option Addr) → Nat → Nat → Int → Int → AMem → Res) (hP24_39 : P24_39 = fun (L : Rec) (x3 : Int) (x8 : Option Addr) (x8n : Nat) (x8c : Nat) (x9 : Int) (x10 : Int) (M : AMem) => code L c24_39 (postK zl41 (loopK L b24_8 (blockK 0 (seqK (code L (.clear zl42 c24_40) (retK [.tmp 2])) (retK [.tmp 2]))))) (s24_39 x3 x8 x8n x8c x9 x10 M) M) (x3 : Int) (x8 : Option Addr) (x8n : Nat) (x8c : Nat) (x9 : Int) (x10 : Int) (x15_0 : Int) (x15_1 : Int) (x15_2 : Int) (x16 : Int) (M : AMem) : P24_22 L x3 x8 x8n x8c x9 x10 x15_0 x15_1 x15_2 x16 M =
  (if (decide (x16 < 3)) = true
    then (if (0 : Int) ≤ x16 ∧ x16 < 3
      then (Option.bind (([x15_0, x15_1, x15_2] : List Int)[((Int.toNat x16) * 1)]?) fun x_1 =>
        (if (x_1 != 0) = true
        then P24_38 L (IntKind.wrap .i64 (x3 + 1)) x8 x8n x8c x9 x10 x15_0 x15_1 x15_2 x16 M
        else P24_38 L x3 x8 x8n x8c x9 x10 x15_0 x15_1 x15_2 x16 M))
      else none)
    else P24_39 L x3 x8 x8n x8c x9 x10 M) := by
  subst hP24_22; subst hP24_38; subst hP24_39; exact (hb (blockK 2 (blockK 1 (seqK (code L (.clear zl41 c24_39) (postK zl41 (loopK L b24_8 (blockK 0 (seqK (code L (.clear zl42 c24_40) (retK [.tmp 2])) (retK [.tmp 2])))))) (postK zl41 (loopK L b24_8 (blockK 0 (seqK (code L (.clear zl42 c24_40) (retK [.tmp 2])) (retK [.tmp 2])))))))) (s24_22 x3 x8 x8n x8c x9 x10 x15_0 x15_1 x15_2 x16 M) M).trans (by kernel_rfl)
theorem P24_22_eq (L : Rec) (hL : ∀ b K t A, L.loop b K t A = code L b (loopK L b K) t A) (x3 : Int) (x8 : Option Addr) (x8n : Nat) (x8c : Nat) (x9 : Int) (x10 : Int) (x15_0 : Int) (x15_1 : Int) (x15_2 : Int) (x16 : Int) (M : AMem) : P24_22 L x3 x8 x8n x8c x9 x10 x15_0 x15_1 x15_2 x16 M =
  (if (decide (x16 < 3)) = true
    then (if (0 : Int) ≤ x16 ∧ x16 < 3
      then (Option.bind (([x15_0, x15_1, x15_2] : List Int)[((Int.toNat x16) * 1)]?) fun x_1 =>
        (if (x_1 != 0) = true
        then P24_38 L (IntKind.wrap .i64 (x3 + 1)) x8 x8n x8c x9 x10 x15_0 x15_1 x15_2 x16 M
        else P24_38 L x3 x8 x8n x8c x9 x10 x15_0 x15_1 x15_2 x16 M))
      else none)
    else P24_39 L x3 x8 x8n x8c x9 x10 M) := QP24_22_eq L b24_22 b24_8 c24_38 c24_39 c24_40 (hL b24_22) P24_22 (Classical.choose_spec XP24_22) P24_38 (Classical.choose_spec XP24_38) P24_39 (Classical.choose_spec XP24_39) x3 x8 x8n x8c x9 x10 x15_0 x15_1 x15_2 x16 M
theorem QP24_40_eq (L : Rec) (P24_40 : Rec → Int → AMem → Res) (hP24_40 : P24_40 = fun (L : Rec) (x3 : Int) (M : AMem) => code L (.seq (.ops o24_41) (.ret)) (retK [.tmp 2]) (s24_40 x3 M) M) (x3 : Int) (M : AMem) : P24_40 L x3 M =
  some (.int .i64 (IntKind.wrap .i64 (2 * x3)), M) := by
  subst hP24_40; kernel_rfl
theorem P24_40_eq (L : Rec) (x3 : Int) (M : AMem) : P24_40 L x3 M =
  some (.int .i64 (IntKind.wrap .i64 (2 * x3)), M) := QP24_40_eq L P24_40 (Classical.choose_spec XP24_40) x3 M
theorem QP24_38_eq (L : Rec) (b24_22 b24_8 c24_39 c24_40 : ACode) (P24_22 : Rec → Int → (Option Addr) → Nat → Nat → Int → Int → Int → Int → Int → Int → AMem → Res) (hP24_22 : P24_22 = fun (L : Rec) (x3 : Int) (x8 : Option Addr) (x8n : Nat) (x8c : Nat) (x9 : Int) (x10 : Int) (x15_0 : Int) (x15_1 : Int) (x15_2 : Int) (x16 : Int) (M : AMem) => L.loop b24_22 (blockK 2 (blockK 1 (seqK (code L (.clear zl41 c24_39) (postK zl41 (loopK L b24_8 (blockK 0 (seqK (code L (.clear zl42 c24_40) (retK [.tmp 2])) (retK [.tmp 2])))))) (postK zl41 (loopK L b24_8 (blockK 0 (seqK (code L (.clear zl42 c24_40) (retK [.tmp 2])) (retK [.tmp 2])))))))) (s24_22 x3 x8 x8n x8c x9 x10 x15_0 x15_1 x15_2 x16 M) M) (P24_38 : Rec → Int → (Option Addr) → Nat → Nat → Int → Int → Int → Int → Int → Int → AMem → Res) (hP24_38 : P24_38 = fun (L : Rec) (x3 : Int) (x8 : Option Addr) (x8n : Nat) (x8c : Nat) (x9 : Int) (x10 : Int) (x15_0 : Int) (x15_1 : Int) (x15_2 : Int) (x16 : Int) (M : AMem) => code L (.ops o24_38) (postK zl40 (loopK L b24_22 (blockK 2 (blockK 1 (seqK (code L (.clear zl41 c24_39) (postK zl41 (loopK L b24_8 (blockK 0 (seqK (code L (.clear zl42 c24_40) (retK [.tmp 2])) (retK [.tmp 2])))))) (postK zl41 (loopK L b24_8 (blockK 0 (seqK (code L (.clear zl42 c24_40) (retK [.tmp 2])) (retK [.tmp 2])))))))))) (s24_38 x3 x8 x8n x8c x9 x10 x15_0 x15_1 x15_2 x16 M) M) (x3 : Int) (x8 : Option Addr) (x8n : Nat) (x8c : Nat) (x9 : Int) (x10 : Int) (x15_0 : Int) (x15_1 : Int) (x15_2 : Int) (x16 : Int) (M : AMem) : P24_38 L x3 x8 x8n x8c x9 x10 x15_0 x15_1 x15_2 x16 M =
  P24_22 L x3 x8 x8n x8c x9 x10 x15_0 x15_1 x15_2 (IntKind.wrap .i64 (x16 + 1)) M := by
  subst hP24_22; subst hP24_38; kernel_rfl
theorem P24_38_eq (L : Rec) (x3 : Int) (x8 : Option Addr) (x8n : Nat) (x8c : Nat) (x9 : Int) (x10 : Int) (x15_0 : Int) (x15_1 : Int) (x15_2 : Int) (x16 : Int) (M : AMem) : P24_38 L x3 x8 x8n x8c x9 x10 x15_0 x15_1 x15_2 x16 M =
  P24_22 L x3 x8 x8n x8c x9 x10 x15_0 x15_1 x15_2 (IntKind.wrap .i64 (x16 + 1)) M := QP24_38_eq L b24_22 b24_8 c24_39 c24_40 P24_22 (Classical.choose_spec XP24_22) P24_38 (Classical.choose_spec XP24_38) x3 x8 x8n x8c x9 x10 x15_0 x15_1 x15_2 x16 M
theorem QP24_39_eq (L : Rec) (b24_8 c24_40 : ACode) (P24_8 : Rec → Int → (Option Addr) → Nat → Nat → Int → Int → AMem → Res) (hP24_8 : P24_8 = fun (L : Rec) (x3 : Int) (x8 : Option Addr) (x8n : Nat) (x8c : Nat) (x9 : Int) (x10 : Int) (M : AMem) => L.loop b24_8 (blockK 0 (seqK (code L (.clear zl42 c24_40) (retK [.tmp 2])) (retK [.tmp 2]))) (s24_8 x3 x8 x8n x8c x9 x10 M) M) (P24_39 : Rec → Int → (Option Addr) → Nat → Nat → Int → Int → AMem → Res) (hP24_39 : P24_39 = fun (L : Rec) (x3 : Int) (x8 : Option Addr) (x8n : Nat) (x8c : Nat) (x9 : Int) (x10 : Int) (M : AMem) => code L (.ops o24_39) (postK zl41 (loopK L b24_8 (blockK 0 (seqK (code L (.clear zl42 c24_40) (retK [.tmp 2])) (retK [.tmp 2]))))) (s24_39 x3 x8 x8n x8c x9 x10 M) M) (x3 : Int) (x8 : Option Addr) (x8n : Nat) (x8c : Nat) (x9 : Int) (x10 : Int) (M : AMem) : P24_39 L x3 x8 x8n x8c x9 x10 M =
  P24_8 L x3 x8 x8n x8c x9 (IntKind.wrap .i64 (x10 + 1)) M := by
  subst hP24_8; subst hP24_39; kernel_rfl
theorem P24_39_eq (L : Rec) (x3 : Int) (x8 : Option Addr) (x8n : Nat) (x8c : Nat) (x9 : Int) (x10 : Int) (M : AMem) : P24_39 L x3 x8 x8n x8c x9 x10 M =
  P24_8 L x3 x8 x8n x8c x9 (IntKind.wrap .i64 (x10 + 1)) M := QP24_39_eq L b24_8 c24_40 P24_8 (Classical.choose_spec XP24_8) P24_39 (Classical.choose_spec XP24_39) x3 x8 x8n x8c x9 x10 M
theorem QE24 (L : Rec) (b24_8 c24_40 : ACode) (P24_8 : Rec → Int → (Option Addr) → Nat → Nat → Int → Int → AMem → Res) (hP24_8 : P24_8 = fun (L : Rec) (x3 : Int) (x8 : Option Addr) (x8n : Nat) (x8c : Nat) (x9 : Int) (x10 : Int) (M : AMem) => L.loop b24_8 (blockK 0 (seqK (code L (.clear zl42 c24_40) (retK [.tmp 2])) (retK [.tmp 2]))) (s24_8 x3 x8 x8n x8c x9 x10 M) M) (x0 : Option Addr) (x0n : Nat) (x0c : Nat) (M : AMem) : enterF L ⟨27, [.tmp 2], .seq (.ops o24_1) (.seq (.ops o24_3) (.seq (.seq (.ops o24_6) (.block 0 (.clear zl41 (.loop b24_8)))) (.clear zl42 c24_40)))⟩ [.slice x0 x0n x0c] M =
  P24_8 L 2 x0 x0n x0c (Int.ofNat x0n) 0 M := by
  subst hP24_8; kernel_rfl
theorem E24 (L : Rec) (x0 : Option Addr) (x0n : Nat) (x0c : Nat) (M : AMem) : enterF L a24 [.slice x0 x0n x0c] M =
  P24_8 L 2 x0 x0n x0c (Int.ofNat x0n) 0 M := QE24 L b24_8 c24_40 P24_8 (Classical.choose_spec XP24_8) x0 x0n x0c M
end Go.Proofs.Ytmpgngilhhmlcaa
