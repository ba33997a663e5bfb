/- What the pieces of some functions come to. -/
import Derived.Test.YtpnknolehckfhaaCode
set_option linter.unusedVariables false
set_option maxRecDepth 100000
namespace Go.Proofs.Ytpnknolehckfhaa
open Go Go.Ax
/-! #### skylightlaw34.lay -/
theorem E12 (L : Rec) (x0_0 : Int) (x0_1 : Int) : enterF L a12 [.agg #[.int .i64 x0_0, .int .i64 x0_1]] [] =
  some (.agg #[.int .i64 x0_0, .int .i64 x0_1], ([AObj.cells [.int .i64 x0_0, .int .i64 x0_1] ⟨false, 0⟩, AObj.cells [.int .i64 x0_0, .int .i64 x0_1] ⟨false, 1⟩] : AMem)) := by kernel_rfl
/-! #### skylightlaw34.of -/
noncomputable def k14_8 (L : Rec) : KT := blockK 0 (seqK (code L (.clear zl33 c14_19) (retK [.tmp 2])) (retK [.tmp 2]))
def s14_8 (x0 : Option Addr) (x0n : Nat) (x0c : Nat) (x3 : Option Addr) (x3n : Nat) (x3c : Nat) (x4 : Int) (M : AMem) : List Value := [.slice x0 x0n x0c, junk, junk, .slice x3 x3n x3c, .int .i64 x4, junk, junk, junk, junk, junk, junk, junk, junk, junk, junk, junk, junk, junk, junk, junk, junk, junk, junk, junk, junk, junk]
theorem XP14_8 : ∃ P : Rec → (Option Addr) → Nat → Nat → (Option Addr) → Nat → Nat → Int → AMem → Res, P = fun (L : Rec) (x0 : Option Addr) (x0n : Nat) (x0c : Nat) (x3 : Option Addr) (x3n : Nat) (x3c : Nat) (x4 : Int) (M : AMem) => L.loop b14_8 (k14_8 L) (s14_8 x0 x0n x0c x3 x3n x3c x4 M) M := ⟨_, rfl⟩
noncomputable def P14_8 : Rec → (Option Addr) → Nat → Nat → (Option Addr) → Nat → Nat → Int → AMem → Res := Classical.choose XP14_8
noncomputable def k14_18 (L : Rec) : KT := postK zl25 (loopK L b14_8 (blockK 0 (seqK (code L (.clear zl33 c14_19) (retK [.tmp 2])) (retK [.tmp 2]))))
def s14_18 (x0 : Option Addr) (x0n : Nat) (x0c : Nat) (x3 : Option Addr) (x3n : Nat) (x3c : Nat) (x4 : Int) (M : AMem) : List Value := [.slice x0 x0n x0c, junk, junk, .slice x3 x3n x3c, .int .i64 x4, junk, junk, junk, junk, junk, junk, junk, junk, junk, junk, junk, junk, junk, junk, junk, junk, junk, junk, junk, junk, junk]
theorem XP14_18 : ∃ P : Rec → (Option Addr) → Nat → Nat → (Option Addr) → Nat → Nat → Int → AMem → Res, P = fun (L : Rec) (x0 : Option Addr) (x0n : Nat) (x0c : Nat) (x3 : Option Addr) (x3n : Nat) (x3c : Nat) (x4 : Int) (M : AMem) => code L c14_18 (k14_18 L) (s14_18 x0 x0n x0c x3 x3n x3c x4 M) M := ⟨_, rfl⟩
noncomputable def P14_18 : Rec → (Option Addr) → Nat → Nat → (Option Addr) → Nat → Nat → Int → AMem → Res := Classical.choose XP14_18
noncomputable def k14_19 (L : Rec) : KT := retK [.tmp 2]
def s14_19 (x3 : Option Addr) (x3n : Nat) (x3c : Nat) (M : AMem) : List Value := [junk, junk, junk, .slice x3 x3n x3c, junk, junk, junk, junk, junk, junk, junk, junk, junk, junk, junk, junk, junk, junk, junk, junk, junk, junk, junk, junk, junk, junk]
theorem XP14_19 : ∃ P : Rec → (Option Addr) → Nat → Nat → AMem → Res, P = fun (L : Rec) (x3 : Option Addr) (x3n : Nat) (x3c : Nat) (M : AMem) => code L c14_19 (k14_19 L) (s14_19 x3 x3n x3c M) M := ⟨_, rfl⟩
noncomputable def P14_19 : Rec → (Option Addr) → Nat → Nat → AMem → Res := Classical.choose XP14_19
theorem QP14_8_eq (L : Rec) (b14_8 c14_18 c14_19 : ACode) (hb : ∀ K t A, L.loop b14_8 K t A = code L (.post (.seq (.seq (.ops o14_11) (.cond (.tmp 8) (.skip) (.exit 0))) (.seq (.block 1 (.draw [] 0 o14_17 [])) (.clear zl25 c14_18))) zl25) (loopK L b14_8 K) t A) (P14_8 : Rec → (Option Addr) → Nat → Nat → (Option Addr) → Nat → Nat → Int → AMem → Res) (hP14_8 : Eq P14_8 fun L x0 x0n x0c x3 x3n x3c x4 M => L.loop b14_8 (blockK 0 (seqK (code L (.clear zl33 c14_19) (retK [.tmp 2])) (retK [.tmp 2]))) (s14_8 x0 x0n x0c x3 x3n x3c x4 M) M) (P14_18 : Rec → (Option Addr) → Nat → Nat → (Option Addr) → Nat → Nat → Int → AMem → Res) (hP14_18 : Eq P14_18 fun L x0 x0n x0c x3 x3n x3c x4 M => code L c14_18 (postK zl25 (loopK L b14_8 (blockK 0 (seqK (code L (.clear zl33 c14_19) (retK [.tmp 2])) (retK [.tmp 2]))))) (s14_18 x0 x0n x0c x3 x3n x3c x4 M) M) (P14_19 : Rec → (Option Addr) → Nat → Nat → AMem → Res) (hP14_19 : Eq P14_19 fun L x3 x3n x3c M => code L c14_19 (retK [.tmp 2]) (s14_19 x3 x3n x3c M) M) (x0 : Option Addr) (x0n : Nat) (x0c : Nat) (x3 : Option Addr) (x3n : Nat) (x3c : Nat) (x4 : Int) (M : AMem) : P14_8 L x0 x0n x0c x3 x3n x3c x4 M =
  (if (decide (x4 < (Int.ofNat x0n))) = true
    then (match x0 with
      | some a_1 => (if (0 : Int) ≤ x4 ∧ x4 < (Int.ofNat x0n)
        then (Option.bind (intOf? .i64 (AMem.ld M a_1.block (a_1.off + ((Int.toNat x4) * 4)))) fun x_2 =>
          (match x0 with
          | some a_3 => (if (0 : Int) ≤ x4 ∧ x4 < (Int.ofNat x0n)
            then (Option.bind (intOf? .u64 (AMem.ld M a_3.block ((a_3.off + ((Int.toNat x4) * 4)) + 1))) fun x_4 =>
              (Option.bind (intOf? .u64 (AMem.ld M a_3.block (((a_3.off + ((Int.toNat x4) * 4)) + 1) + 1))) fun x_5 =>
              (Option.bind (intOf? .u64 (AMem.ld M a_3.block (((a_3.off + ((Int.toNat x4) * 4)) + 1) + 2))) fun x_6 =>
              (Option.bind (rowOf (M ++ [AObj.cells [.int .i64 x_2, .int .u64 x_4, .int .u64 x_5, .int .u64 x_6] ⟨false, 0⟩]) 4 (.slice (some ⟨(List.length M), 0, none⟩) 1 4)) fun row_7 =>
              (appendK 4 32 x3 x3n x3c 1 row_7 (M ++ [AObj.cells [.int .i64 x_2, .int .u64 x_4, .int .u64 x_5, .int .u64 x_6] ⟨false, 0⟩]) fun p_8 n_9 c_10 M_11 =>
              P14_18 L x0 x0n x0c p_8 n_9 c_10 x4 M_11)))))
            else none)
          | none => none))
        else none)
      | none => none)
    else P14_19 L x3 x3n x3c M) := by
  subst hP14_8; subst hP14_18; subst hP14_19; exact (hb (blockK 0 (seqK (code L (.clear zl33 c14_19) (retK [.tmp 2])) (retK [.tmp 2]))) (s14_8 x0 x0n x0c x3 x3n x3c x4 M) M).trans (by kernel_rfl)
theorem P14_8_eq (L : Rec) (hL : ∀ b K t A, L.loop b K t A = code L b (loopK L b K) t A) (x0 : Option Addr) (x0n : Nat) (x0c : Nat) (x3 : Option Addr) (x3n : Nat) (x3c : Nat) (x4 : Int) (M : AMem) : P14_8 L x0 x0n x0c x3 x3n x3c x4 M =
  (if (decide (x4 < (Int.ofNat x0n))) = true
    then (match x0 with
      | some a_1 => (if (0 : Int) ≤ x4 ∧ x4 < (Int.ofNat x0n)
        then (Option.bind (intOf? .i64 (AMem.ld M a_1.block (a_1.off + ((Int.toNat x4) * 4)))) fun x_2 =>
          (match x0 with
          | some a_3 => (if (0 : Int) ≤ x4 ∧ x4 < (Int.ofNat x0n)
            then (Option.bind (intOf? .u64 (AMem.ld M a_3.block ((a_3.off + ((Int.toNat x4) * 4)) + 1))) fun x_4 =>
              (Option.bind (intOf? .u64 (AMem.ld M a_3.block (((a_3.off + ((Int.toNat x4) * 4)) + 1) + 1))) fun x_5 =>
              (Option.bind (intOf? .u64 (AMem.ld M a_3.block (((a_3.off + ((Int.toNat x4) * 4)) + 1) + 2))) fun x_6 =>
              (Option.bind (rowOf (M ++ [AObj.cells [.int .i64 x_2, .int .u64 x_4, .int .u64 x_5, .int .u64 x_6] ⟨false, 0⟩]) 4 (.slice (some ⟨(List.length M), 0, none⟩) 1 4)) fun row_7 =>
              (appendK 4 32 x3 x3n x3c 1 row_7 (M ++ [AObj.cells [.int .i64 x_2, .int .u64 x_4, .int .u64 x_5, .int .u64 x_6] ⟨false, 0⟩]) fun p_8 n_9 c_10 M_11 =>
              P14_18 L x0 x0n x0c p_8 n_9 c_10 x4 M_11)))))
            else none)
          | none => none))
        else none)
      | none => none)
    else P14_19 L x3 x3n x3c M) := QP14_8_eq L b14_8 c14_18 c14_19 (hL b14_8) P14_8 (Classical.choose_spec XP14_8) P14_18 (Classical.choose_spec XP14_18) P14_19 (Classical.choose_spec XP14_19) x0 x0n x0c x3 x3n x3c x4 M
theorem QP14_18_eq (L : Rec) (b14_8 c14_19 : ACode) (P14_8 : Rec → (Option Addr) → Nat → Nat → (Option Addr) → Nat → Nat → Int → AMem → Res) (hP14_8 : Eq P14_8 fun L x0 x0n x0c x3 x3n x3c x4 M => L.loop b14_8 (blockK 0 (seqK (code L (.clear zl33 c14_19) (retK [.tmp 2])) (retK [.tmp 2]))) (s14_8 x0 x0n x0c x3 x3n x3c x4 M) M) (P14_18 : Rec → (Option Addr) → Nat → Nat → (Option Addr) → Nat → Nat → Int → AMem → Res) (hP14_18 : Eq P14_18 fun L x0 x0n x0c x3 x3n x3c x4 M => code L (.ops o14_18) (postK zl25 (loopK L b14_8 (blockK 0 (seqK (code L (.clear zl33 c14_19) (retK [.tmp 2])) (retK [.tmp 2]))))) (s14_18 x0 x0n x0c x3 x3n x3c x4 M) M) (x0 : Option Addr) (x0n : Nat) (x0c : Nat) (x3 : Option Addr) (x3n : Nat) (x3c : Nat) (x4 : Int) (M : AMem) : P14_18 L x0 x0n x0c x3 x3n x3c x4 M =
  P14_8 L x0 x0n x0c x3 x3n x3c (IntKind.wrap .i64 (x4 + 1)) M := by
  subst hP14_8; subst hP14_18; kernel_rfl
theorem P14_18_eq (L : Rec) (x0 : Option Addr) (x0n : Nat) (x0c : Nat) (x3 : Option Addr) (x3n : Nat) (x3c : Nat) (x4 : Int) (M : AMem) : P14_18 L x0 x0n x0c x3 x3n x3c x4 M =
  P14_8 L x0 x0n x0c x3 x3n x3c (IntKind.wrap .i64 (x4 + 1)) M := QP14_18_eq L b14_8 c14_19 P14_8 (Classical.choose_spec XP14_8) P14_18 (Classical.choose_spec XP14_18) x0 x0n x0c x3 x3n x3c x4 M
theorem QP14_19_eq (L : Rec) (P14_19 : Rec → (Option Addr) → Nat → Nat → AMem → Res) (hP14_19 : Eq P14_19 fun L x3 x3n x3c M => code L (.seq (.ops o14_20) (.ret)) (retK [.tmp 2]) (s14_19 x3 x3n x3c M) M) (x3 : Option Addr) (x3n : Nat) (x3c : Nat) (M : AMem) : P14_19 L x3 x3n x3c M =
  some (.slice x3 x3n x3c, M) := by
  subst hP14_19; kernel_rfl
theorem P14_19_eq (L : Rec) (x3 : Option Addr) (x3n : Nat) (x3c : Nat) (M : AMem) : P14_19 L x3 x3n x3c M =
  some (.slice x3 x3n x3c, M) := QP14_19_eq L P14_19 (Classical.choose_spec XP14_19) x3 x3n x3c M
theorem QE14 (L : Rec) (b14_8 c14_19 : ACode) (P14_8 : Rec → (Option Addr) → Nat → Nat → (Option Addr) → Nat → Nat → Int → AMem → Res) (hP14_8 : Eq P14_8 fun L x0 x0n x0c x3 x3n x3c x4 M => L.loop b14_8 (blockK 0 (seqK (code L (.clear zl33 c14_19) (retK [.tmp 2])) (retK [.tmp 2]))) (s14_8 x0 x0n x0c x3 x3n x3c x4 M) M) (x0 : Option Addr) (x0n : Nat) (x0c : Nat) (M : AMem) : enterF L ⟨26, [.tmp 2], .seq (.ops o14_1) (.seq (.ops o14_3) (.seq (.seq (.ops o14_6) (.block 0 (.clear zl25 (.loop b14_8)))) (.clear zl33 c14_19)))⟩ [.slice x0 x0n x0c] M =
  P14_8 L x0 x0n x0c none 0 0 0 M := by
  subst hP14_8; kernel_rfl
theorem E14 (L : Rec) (x0 : Option Addr) (x0n : Nat) (x0c : Nat) (M : AMem) : enterF L a14 [.slice x0 x0n x0c] M =
  P14_8 L x0 x0n x0c none 0 0 0 M := QE14 L b14_8 c14_19 P14_8 (Classical.choose_spec XP14_8) x0 x0n x0c M
/-! #### skylightlaw34.fits -/
noncomputable def k7_8 (L : Rec) : KT := blockK 0 (seqK (code L (.clear zl26 c7_19) (retK [.tmp 2])) (retK [.tmp 2]))
def s7_8 (x0 : Option Addr) (x0n : Nat) (x0c : Nat) (x3 : Int) (x4 : Int) (M : AMem) : List Value := [.slice x0 x0n x0c, junk, junk, .int .i64 x3, .int .i64 x4, junk, junk, junk, junk, junk, junk, junk, junk, junk, junk, junk, junk, junk, junk, junk, junk, junk, junk, junk, junk, junk]
theorem XP7_8 : ∃ P : Rec → (Option Addr) → Nat → Nat → Int → Int → AMem → Res, P = fun (L : Rec) (x0 : Option Addr) (x0n : Nat) (x0c : Nat) (x3 : Int) (x4 : Int) (M : AMem) => L.loop b7_8 (k7_8 L) (s7_8 x0 x0n x0c x3 x4 M) M := ⟨_, rfl⟩
noncomputable def P7_8 : Rec → (Option Addr) → Nat → Nat → Int → Int → AMem → Res := Classical.choose XP7_8
noncomputable def k7_18 (L : Rec) : KT := postK zl25 (loopK L b7_8 (blockK 0 (seqK (code L (.clear zl26 c7_19) (retK [.tmp 2])) (retK [.tmp 2]))))
def s7_18 (x0 : Option Addr) (x0n : Nat) (x0c : Nat) (x3 : Int) (x4 : Int) (M : AMem) : List Value := [.slice x0 x0n x0c, junk, junk, .int .i64 x3, .int .i64 x4, junk, junk, junk, junk, junk, junk, junk, junk, junk, junk, junk, junk, junk, junk, junk, junk, junk, junk, junk, junk, junk]
theorem XP7_18 : ∃ P : Rec → (Option Addr) → Nat → Nat → Int → Int → AMem → Res, P = fun (L : Rec) (x0 : Option Addr) (x0n : Nat) (x0c : Nat) (x3 : Int) (x4 : Int) (M : AMem) => code L c7_18 (k7_18 L) (s7_18 x0 x0n x0c x3 x4 M) M := ⟨_, rfl⟩
noncomputable def P7_18 : Rec → (Option Addr) → Nat → Nat → Int → Int → AMem → Res := Classical.choose XP7_18
noncomputable def k7_19 (L : Rec) : KT := retK [.tmp 2]
def s7_19 (x0 : Option Addr) (x0n : Nat) (x0c : Nat) (x3 : Int) (M : AMem) : List Value := [.slice x0 x0n x0c, junk, junk, .int .i64 x3, junk, junk, junk, junk, junk, junk, junk, junk, junk, junk, junk, junk, junk, junk, junk, junk, junk, junk, junk, junk, junk, junk]
theorem XP7_19 : ∃ P : Rec → (Option Addr) → Nat → Nat → Int → AMem → Res, P = fun (L : Rec) (x0 : Option Addr) (x0n : Nat) (x0c : Nat) (x3 : Int) (M : AMem) => code L c7_19 (k7_19 L) (s7_19 x0 x0n x0c x3 M) M := ⟨_, rfl⟩
noncomputable def P7_19 : Rec → (Option Addr) → Nat → Nat → Int → AMem → Res := Classical.choose XP7_19
theorem QP7_8_eq (L : Rec) (b7_8 c7_18 c7_19 : ACode) (hb : ∀ K t A, L.loop b7_8 K t A = code L (.post (.seq (.seq (.ops o7_11) (.cond (.tmp 8) (.skip) (.exit 0))) (.seq (.block 1 (.ops o7_17)) (.clear zl25 c7_18))) zl25) (loopK L b7_8 K) t A) (P7_8 : Rec → (Option Addr) → Nat → Nat → Int → Int → AMem → Res) (hP7_8 : Eq P7_8 fun L x0 x0n x0c x3 x4 M => L.loop b7_8 (blockK 0 (seqK (code L (.clear zl26 c7_19) (retK [.tmp 2])) (retK [.tmp 2]))) (s7_8 x0 x0n x0c x3 x4 M) M) (P7_18 : Rec → (Option Addr) → Nat → Nat → Int → Int → AMem → Res) (hP7_18 : Eq P7_18 fun L x0 x0n x0c x3 x4 M => code L c7_18 (postK zl25 (loopK L b7_8 (blockK 0 (seqK (code L (.clear zl26 c7_19) (retK [.tmp 2])) (retK [.tmp 2]))))) (s7_18 x0 x0n x0c x3 x4 M) M) (P7_19 : Rec → (Option Addr) → Nat → Nat → Int → AMem → Res) (hP7_19 : Eq P7_19 fun L x0 x0n x0c x3 M => code L c7_19 (retK [.tmp 2]) (s7_19 x0 x0n x0c x3 M) M) (x0 : Option Addr) (x0n : Nat) (x0c : Nat) (x3 : Int) (x4 : Int) (M : AMem) : P7_8 L x0 x0n x0c x3 x4 M =
  (if (decide (x4 < (Int.ofNat x0n))) = true
    then (match x0 with
      | some a_1 => (if (0 : Int) ≤ x4 ∧ x4 < (Int.ofNat x0n)
        then (Option.bind (sliceOf? (AMem.ld M a_1.block ((a_1.off + ((Int.toNat x4) * 2)) + 1))) fun s_2 =>
          P7_18 L x0 x0n x0c (IntKind.wrap .i64 (x3 + (Int.ofNat s_2.2.1))) x4 M)
        else none)
      | none => none)
    else P7_19 L x0 x0n x0c x3 M) := by
  subst hP7_8; subst hP7_18; subst hP7_19; exact (hb (blockK 0 (seqK (code L (.clear zl26 c7_19) (retK [.tmp 2])) (retK [.tmp 2]))) (s7_8 x0 x0n x0c x3 x4 M) M).trans (by kernel_rfl)
theorem P7_8_eq (L : Rec) (hL : ∀ b K t A, L.loop b K t A = code L b (loopK L b K) t A) (x0 : Option Addr) (x0n : Nat) (x0c : Nat) (x3 : Int) (x4 : Int) (M : AMem) : P7_8 L x0 x0n x0c x3 x4 M =
  (if (decide (x4 < (Int.ofNat x0n))) = true
    then (match x0 with
      | some a_1 => (if (0 : Int) ≤ x4 ∧ x4 < (Int.ofNat x0n)
        then (Option.bind (sliceOf? (AMem.ld M a_1.block ((a_1.off + ((Int.toNat x4) * 2)) + 1))) fun s_2 =>
          P7_18 L x0 x0n x0c (IntKind.wrap .i64 (x3 + (Int.ofNat s_2.2.1))) x4 M)
        else none)
      | none => none)
    else P7_19 L x0 x0n x0c x3 M) := QP7_8_eq L b7_8 c7_18 c7_19 (hL b7_8) P7_8 (Classical.choose_spec XP7_8) P7_18 (Classical.choose_spec XP7_18) P7_19 (Classical.choose_spec XP7_19) x0 x0n x0c x3 x4 M
theorem QP7_18_eq (L : Rec) (b7_8 c7_19 : ACode) (P7_8 : Rec → (Option Addr) → Nat → Nat → Int → Int → AMem → Res) (hP7_8 : Eq P7_8 fun L x0 x0n x0c x3 x4 M => L.loop b7_8 (blockK 0 (seqK (code L (.clear zl26 c7_19) (retK [.tmp 2])) (retK [.tmp 2]))) (s7_8 x0 x0n x0c x3 x4 M) M) (P7_18 : Rec → (Option Addr) → Nat → Nat → Int → Int → AMem → Res) (hP7_18 : Eq P7_18 fun L x0 x0n x0c x3 x4 M => code L (.ops o7_18) (postK zl25 (loopK L b7_8 (blockK 0 (seqK (code L (.clear zl26 c7_19) (retK [.tmp 2])) (retK [.tmp 2]))))) (s7_18 x0 x0n x0c x3 x4 M) M) (x0 : Option Addr) (x0n : Nat) (x0c : Nat) (x3 : Int) (x4 : Int) (M : AMem) : P7_18 L x0 x0n x0c x3 x4 M =
  P7_8 L x0 x0n x0c x3 (IntKind.wrap .i64 (x4 + 1)) M := by
  subst hP7_8; subst hP7_18; kernel_rfl
theorem P7_18_eq (L : Rec) (x0 : Option Addr) (x0n : Nat) (x0c : Nat) (x3 : Int) (x4 : Int) (M : AMem) : P7_18 L x0 x0n x0c x3 x4 M =
  P7_8 L x0 x0n x0c x3 (IntKind.wrap .i64 (x4 + 1)) M := QP7_18_eq L b7_8 c7_19 P7_8 (Classical.choose_spec XP7_8) P7_18 (Classical.choose_spec XP7_18) x0 x0n x0c x3 x4 M
theorem QP7_19_eq (L : Rec) (P7_19 : Rec → (Option Addr) → Nat → Nat → Int → AMem → Res) (hP7_19 : Eq P7_19 fun L x0 x0n x0c x3 M => code L (.seq (.ops o7_20) (.ret)) (retK [.tmp 2]) (s7_19 x0 x0n x0c x3 M) M) (x0 : Option Addr) (x0n : Nat) (x0c : Nat) (x3 : Int) (M : AMem) : P7_19 L x0 x0n x0c x3 M =
  (if (decide ((Int.ofNat x0n) ≤ 6)) = true
    then some (.bool (decide (x3 ≤ 16)), M)
    else some (.bool false, M)) := by
  subst hP7_19; kernel_rfl
theorem P7_19_eq (L : Rec) (x0 : Option Addr) (x0n : Nat) (x0c : Nat) (x3 : Int) (M : AMem) : P7_19 L x0 x0n x0c x3 M =
  (if (decide ((Int.ofNat x0n) ≤ 6)) = true
    then some (.bool (decide (x3 ≤ 16)), M)
    else some (.bool false, M)) := QP7_19_eq L P7_19 (Classical.choose_spec XP7_19) x0 x0n x0c x3 M
theorem QE7 (L : Rec) (b7_8 c7_19 : ACode) (P7_8 : Rec → (Option Addr) → Nat → Nat → Int → Int → AMem → Res) (hP7_8 : Eq P7_8 fun L x0 x0n x0c x3 x4 M => L.loop b7_8 (blockK 0 (seqK (code L (.clear zl26 c7_19) (retK [.tmp 2])) (retK [.tmp 2]))) (s7_8 x0 x0n x0c x3 x4 M) M) (x0 : Option Addr) (x0n : Nat) (x0c : Nat) (M : AMem) : enterF L ⟨26, [.tmp 2], .seq (.ops o7_1) (.seq (.ops o7_3) (.seq (.seq (.ops o7_6) (.block 0 (.clear zl25 (.loop b7_8)))) (.clear zl26 c7_19)))⟩ [.slice x0 x0n x0c] M =
  P7_8 L x0 x0n x0c 0 0 M := by
  subst hP7_8; kernel_rfl
theorem E7 (L : Rec) (x0 : Option Addr) (x0n : Nat) (x0c : Nat) (M : AMem) : enterF L a7 [.slice x0 x0n x0c] M =
  P7_8 L x0 x0n x0c 0 0 M := QE7 L b7_8 c7_19 P7_8 (Classical.choose_spec XP7_8) x0 x0n x0c M
/-! #### skylightlaw34.same -/
noncomputable def k29_14 (L : Rec) : KT := blockK 0 (seqK (code L (.clear zl59 c29_31) (retK [.tmp 4])) (retK [.tmp 4]))
def s29_14 (x0 : Option Addr) (x0n : Nat) (x0c : Nat) (x1 : Option Addr) (x1n : Nat) (x1c : Nat) (x5 : Int) (M : AMem) : List Value := [.slice x0 x0n x0c, .slice x1 x1n x1c, junk, junk, junk, .int .i64 x5, junk, junk, junk, junk, junk, junk, junk, junk, junk, junk, junk, junk, junk, junk, junk, junk, junk, junk, junk, junk]
theorem XP29_14 : ∃ P : Rec → (Option Addr) → Nat → Nat → (Option Addr) → Nat → Nat → Int → AMem → Res, P = fun (L : Rec) (x0 : Option Addr) (x0n : Nat) (x0c : Nat) (x1 : Option Addr) (x1n : Nat) (x1c : Nat) (x5 : Int) (M : AMem) => L.loop b29_14 (k29_14 L) (s29_14 x0 x0n x0c x1 x1n x1c x5 M) M := ⟨_, rfl⟩
noncomputable def P29_14 : Rec → (Option Addr) → Nat → Nat → (Option Addr) → Nat → Nat → Int → AMem → Res := Classical.choose XP29_14
noncomputable def k29_30 (L : Rec) : KT := postK zl58 (loopK L b29_14 (blockK 0 (seqK (code L (.clear zl59 c29_31) (retK [.tmp 4])) (retK [.tmp 4]))))
def s29_30 (x0 : Option Addr) (x0n : Nat) (x0c : Nat) (x1 : Option Addr) (x1n : Nat) (x1c : Nat) (x5 : Int) (M : AMem) : List Value := [.slice x0 x0n x0c, .slice x1 x1n x1c, junk, junk, junk, .int .i64 x5, junk, junk, junk, junk, junk, junk, junk, junk, junk, junk, junk, junk, junk, junk, junk, junk, junk, junk, junk, junk]
theorem XP29_30 : ∃ P : Rec → (Option Addr) → Nat → Nat → (Option Addr) → Nat → Nat → Int → AMem → Res, P = fun (L : Rec) (x0 : Option Addr) (x0n : Nat) (x0c : Nat) (x1 : Option Addr) (x1n : Nat) (x1c : Nat) (x5 : Int) (M : AMem) => code L c29_30 (k29_30 L) (s29_30 x0 x0n x0c x1 x1n x1c x5 M) M := ⟨_, rfl⟩
noncomputable def P29_30 : Rec → (Option Addr) → Nat → Nat → (Option Addr) → Nat → Nat → Int → AMem → Res := Classical.choose XP29_30
noncomputable def k29_31 (L : Rec) : KT := retK [.tmp 4]
def s29_31 (M : AMem) : List Value := [junk, junk, junk, junk, junk, junk, junk, junk, junk, junk, junk, junk, junk, junk, junk, junk, junk, junk, junk, junk, junk, junk, junk, junk, junk, junk]
theorem XP29_31 : ∃ P : Rec → AMem → Res, P = fun (L : Rec) (M : AMem) => code L c29_31 (k29_31 L) (s29_31 M) M := ⟨_, rfl⟩
noncomputable def P29_31 : Rec → AMem → Res := Classical.choose XP29_31
theorem QP29_14_eq (L : Rec) (b29_14 c29_30 c29_31 : ACode) (hb : ∀ K t A, L.loop b29_14 K t A = code L (.post (.seq (.seq (.ops o29_17) (.cond (.tmp 14) (.skip) (.exit 0))) (.seq (.block 1 (.seq (.draw [] 0 o29_24 []) (.cond (.tmp 25) (.seq (.ops o29_27) (.ret)) (.skip)))) (.clear zl58 c29_30))) zl58) (loopK L b29_14 K) t A) (P29_14 : Rec → (Option Addr) → Nat → Nat → (Option Addr) → Nat → Nat → Int → AMem → Res) (hP29_14 : Eq P29_14 fun L x0 x0n x0c x1 x1n x1c x5 M => L.loop b29_14 (blockK 0 (seqK (code L (.clear zl59 c29_31) (retK [.tmp 4])) (retK [.tmp 4]))) (s29_14 x0 x0n x0c x1 x1n x1c x5 M) M) (P29_30 : Rec → (Option Addr) → Nat → Nat → (Option Addr) → Nat → Nat → Int → AMem → Res) (hP29_30 : Eq P29_30 fun L x0 x0n x0c x1 x1n x1c x5 M => code L c29_30 (postK zl58 (loopK L b29_14 (blockK 0 (seqK (code L (.clear zl59 c29_31) (retK [.tmp 4])) (retK [.tmp 4]))))) (s29_30 x0 x0n x0c x1 x1n x1c x5 M) M) (P29_31 : Rec → AMem → Res) (hP29_31 : Eq P29_31 fun L M => code L c29_31 (retK [.tmp 4]) (s29_31 M) M) (x0 : Option Addr) (x0n : Nat) (x0c : Nat) (x1 : Option Addr) (x1n : Nat) (x1c : Nat) (x5 : Int) (M : AMem) : P29_14 L x0 x0n x0c x1 x1n x1c x5 M =
  (if (decide (x5 < (Int.ofNat x0n))) = true
    then (match x0 with
      | some a_1 => (if (0 : Int) ≤ x5 ∧ x5 < (Int.ofNat x0n)
        then (Option.bind (intOf? .u64 (AMem.ld M a_1.block (a_1.off + ((Int.toNat x5) * 3)))) fun x_2 =>
          (Option.bind (intOf? .u64 (AMem.ld M a_1.block ((a_1.off + ((Int.toNat x5) * 3)) + 1))) fun x_3 =>
          (Option.bind (intOf? .u64 (AMem.ld M a_1.block ((a_1.off + ((Int.toNat x5) * 3)) + 2))) fun x_4 =>
          (match x1 with
          | some a_5 => (if (0 : Int) ≤ x5 ∧ x5 < (Int.ofNat x1n)
            then (Option.bind (intOf? .u64 (AMem.ld M a_5.block (a_5.off + ((Int.toNat x5) * 3)))) fun x_6 =>
              (Option.bind (intOf? .u64 (AMem.ld M a_5.block ((a_5.off + ((Int.toNat x5) * 3)) + 1))) fun x_7 =>
              (Option.bind (intOf? .u64 (AMem.ld M a_5.block ((a_5.off + ((Int.toNat x5) * 3)) + 2))) fun x_8 =>
              (if (!((x_2 == x_6) && ((x_3 == x_7) && (x_4 == x_8)))) = true
              then some (.bool false, M)
              else P29_30 L x0 x0n x0c x1 x1n x1c x5 M))))
            else none)
          | none => none))))
        else none)
      | none => none)
    else P29_31 L M) := by
  subst hP29_14; subst hP29_30; subst hP29_31; exact (hb (blockK 0 (seqK (code L (.clear zl59 c29_31) (retK [.tmp 4])) (retK [.tmp 4]))) (s29_14 x0 x0n x0c x1 x1n x1c x5 M) M).trans (by kernel_rfl)
theorem P29_14_eq (L : Rec) (hL : ∀ b K t A, L.loop b K t A = code L b (loopK L b K) t A) (x0 : Option Addr) (x0n : Nat) (x0c : Nat) (x1 : Option Addr) (x1n : Nat) (x1c : Nat) (x5 : Int) (M : AMem) : P29_14 L x0 x0n x0c x1 x1n x1c x5 M =
  (if (decide (x5 < (Int.ofNat x0n))) = true
    then (match x0 with
      | some a_1 => (if (0 : Int) ≤ x5 ∧ x5 < (Int.ofNat x0n)
        then (Option.bind (intOf? .u64 (AMem.ld M a_1.block (a_1.off + ((Int.toNat x5) * 3)))) fun x_2 =>
          (Option.bind (intOf? .u64 (AMem.ld M a_1.block ((a_1.off + ((Int.toNat x5) * 3)) + 1))) fun x_3 =>
          (Option.bind (intOf? .u64 (AMem.ld M a_1.block ((a_1.off + ((Int.toNat x5) * 3)) + 2))) fun x_4 =>
          (match x1 with
          | some a_5 => (if (0 : Int) ≤ x5 ∧ x5 < (Int.ofNat x1n)
            then (Option.bind (intOf? .u64 (AMem.ld M a_5.block (a_5.off + ((Int.toNat x5) * 3)))) fun x_6 =>
              (Option.bind (intOf? .u64 (AMem.ld M a_5.block ((a_5.off + ((Int.toNat x5) * 3)) + 1))) fun x_7 =>
              (Option.bind (intOf? .u64 (AMem.ld M a_5.block ((a_5.off + ((Int.toNat x5) * 3)) + 2))) fun x_8 =>
              (if (!((x_2 == x_6) && ((x_3 == x_7) && (x_4 == x_8)))) = true
              then some (.bool false, M)
              else P29_30 L x0 x0n x0c x1 x1n x1c x5 M))))
            else none)
          | none => none))))
        else none)
      | none => none)
    else P29_31 L M) := QP29_14_eq L b29_14 c29_30 c29_31 (hL b29_14) P29_14 (Classical.choose_spec XP29_14) P29_30 (Classical.choose_spec XP29_30) P29_31 (Classical.choose_spec XP29_31) x0 x0n x0c x1 x1n x1c x5 M
theorem QP29_30_eq (L : Rec) (b29_14 c29_31 : ACode) (P29_14 : Rec → (Option Addr) → Nat → Nat → (Option Addr) → Nat → Nat → Int → AMem → Res) (hP29_14 : Eq P29_14 fun L x0 x0n x0c x1 x1n x1c x5 M => L.loop b29_14 (blockK 0 (seqK (code L (.clear zl59 c29_31) (retK [.tmp 4])) (retK [.tmp 4]))) (s29_14 x0 x0n x0c x1 x1n x1c x5 M) M) (P29_30 : Rec → (Option Addr) → Nat → Nat → (Option Addr) → Nat → Nat → Int → AMem → Res) (hP29_30 : Eq P29_30 fun L x0 x0n x0c x1 x1n x1c x5 M => code L (.ops o29_30) (postK zl58 (loopK L b29_14 (blockK 0 (seqK (code L (.clear zl59 c29_31) (retK [.tmp 4])) (retK [.tmp 4]))))) (s29_30 x0 x0n x0c x1 x1n x1c x5 M) M) (x0 : Option Addr) (x0n : Nat) (x0c : Nat) (x1 : Option Addr) (x1n : Nat) (x1c : Nat) (x5 : Int) (M : AMem) : P29_30 L x0 x0n x0c x1 x1n x1c x5 M =
  P29_14 L x0 x0n x0c x1 x1n x1c (IntKind.wrap .i64 (x5 + 1)) M := by
  subst hP29_14; subst hP29_30; kernel_rfl
theorem P29_30_eq (L : Rec) (x0 : Option Addr) (x0n : Nat) (x0c : Nat) (x1 : Option Addr) (x1n : Nat) (x1c : Nat) (x5 : Int) (M : AMem) : P29_30 L x0 x0n x0c x1 x1n x1c x5 M =
  P29_14 L x0 x0n x0c x1 x1n x1c (IntKind.wrap .i64 (x5 + 1)) M := QP29_30_eq L b29_14 c29_31 P29_14 (Classical.choose_spec XP29_14) P29_30 (Classical.choose_spec XP29_30) x0 x0n x0c x1 x1n x1c x5 M
theorem QP29_31_eq (L : Rec) (P29_31 : Rec → AMem → Res) (hP29_31 : Eq P29_31 fun L M => code L (.seq (.ops o29_32) (.ret)) (retK [.tmp 4]) (s29_31 M) M) (M : AMem) : P29_31 L M =
  some (.bool true, M) := by
  subst hP29_31; kernel_rfl
theorem P29_31_eq (L : Rec) (M : AMem) : P29_31 L M =
  some (.bool true, M) := QP29_31_eq L P29_31 (Classical.choose_spec XP29_31) M
theorem QE29 (L : Rec) (b29_14 c29_31 : ACode) (P29_14 : Rec → (Option Addr) → Nat → Nat → (Option Addr) → Nat → Nat → Int → AMem → Res) (hP29_14 : Eq P29_14 fun L x0 x0n x0c x1 x1n x1c x5 M => L.loop b29_14 (blockK 0 (seqK (code L (.clear zl59 c29_31) (retK [.tmp 4])) (retK [.tmp 4]))) (s29_14 x0 x0n x0c x1 x1n x1c x5 M) M) (x0 : Option Addr) (x0n : Nat) (x0c : Nat) (x1 : Option Addr) (x1n : Nat) (x1c : Nat) (M : AMem) : enterF L ⟨26, [.tmp 4], .seq (.ops o29_1) (.seq (.seq (.ops o29_4) (.cond (.tmp 10) (.seq (.ops o29_7) (.ret)) (.skip))) (.seq (.seq (.ops o29_12) (.block 0 (.clear zl58 (.loop b29_14)))) (.clear zl59 c29_31)))⟩ [.slice x0 x0n x0c, .slice x1 x1n x1c] M =
  (if ((Int.ofNat x0n) != (Int.ofNat x1n)) = true
    then some (.bool false, M)
    else P29_14 L x0 x0n x0c x1 x1n x1c 0 M) := by
  subst hP29_14; kernel_rfl
theorem E29 (L : Rec) (x0 : Option Addr) (x0n : Nat) (x0c : Nat) (x1 : Option Addr) (x1n : Nat) (x1c : Nat) (M : AMem) : enterF L a29 [.slice x0 x0n x0c, .slice x1 x1n x1c] M =
  (if ((Int.ofNat x0n) != (Int.ofNat x1n)) = true
    then some (.bool false, M)
    else P29_14 L x0 x0n x0c x1 x1n x1c 0 M) := QE29 L b29_14 c29_31 P29_14 (Classical.choose_spec XP29_14) x0 x0n x0c x1 x1n x1c M
end Go.Proofs.Ytpnknolehckfhaa
