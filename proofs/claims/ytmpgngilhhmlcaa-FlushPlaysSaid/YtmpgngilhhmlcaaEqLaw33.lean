/- What the pieces of some functions come to. -/
import Derived.Test.YtmpgngilhhmlcaaCode
set_option linter.unusedVariables false
set_option maxRecDepth 100000
namespace Go.Proofs.Ytmpgngilhhmlcaa
open Go Go.Ax
/-! #### skylightlaw33.lay -/
theorem E22 (L : Rec) (x0_0 : Int) (x0_1 : Int) : enterF L a22 [.agg #[.int .i64 x0_0, .int .i64 x0_1]] [] =
  some (.agg #[.int .i64 x0_0, .int .i64 x0_1], ([AObj.cells [.int .i64 x0_0, .int .i64 x0_1] ⟨false, 0⟩, AObj.cells [.int .i64 x0_0, .int .i64 x0_1] ⟨false, 1⟩] : AMem)) := by kernel_rfl
/-! #### skylightlaw33.of -/
noncomputable def k23_8 (L : Rec) : KT := blockK 0 (seqK (code L (.clear zl39 c23_19) (retK [.tmp 2])) (retK [.tmp 2]))
def s23_8 (x0 : Option Addr) (x0n : Nat) (x0c : Nat) (x3 : Option Addr) (x3n : Nat) (x3c : Nat) (x4 : Int) (M : AMem) : List Value := [.slice x0 x0n x0c, junk, junk, .slice x3 x3n x3c, .int .i64 x4, junk, junk, junk, junk, junk, junk, junk, junk, junk, junk, junk, junk, junk, junk, junk, junk, junk, junk, junk, junk, junk]
theorem XP23_8 : ∃ P : Rec → (Option Addr) → Nat → Nat → (Option Addr) → Nat → Nat → Int → AMem → Res, P = fun (L : Rec) (x0 : Option Addr) (x0n : Nat) (x0c : Nat) (x3 : Option Addr) (x3n : Nat) (x3c : Nat) (x4 : Int) (M : AMem) => L.loop b23_8 (k23_8 L) (s23_8 x0 x0n x0c x3 x3n x3c x4 M) M := ⟨_, rfl⟩
noncomputable def P23_8 : Rec → (Option Addr) → Nat → Nat → (Option Addr) → Nat → Nat → Int → AMem → Res := Classical.choose XP23_8
noncomputable def k23_18 (L : Rec) : KT := postK zl25 (loopK L b23_8 (blockK 0 (seqK (code L (.clear zl39 c23_19) (retK [.tmp 2])) (retK [.tmp 2]))))
def s23_18 (x0 : Option Addr) (x0n : Nat) (x0c : Nat) (x3 : Option Addr) (x3n : Nat) (x3c : Nat) (x4 : Int) (M : AMem) : List Value := [.slice x0 x0n x0c, junk, junk, .slice x3 x3n x3c, .int .i64 x4, junk, junk, junk, junk, junk, junk, junk, junk, junk, junk, junk, junk, junk, junk, junk, junk, junk, junk, junk, junk, junk]
theorem XP23_18 : ∃ P : Rec → (Option Addr) → Nat → Nat → (Option Addr) → Nat → Nat → Int → AMem → Res, P = fun (L : Rec) (x0 : Option Addr) (x0n : Nat) (x0c : Nat) (x3 : Option Addr) (x3n : Nat) (x3c : Nat) (x4 : Int) (M : AMem) => code L c23_18 (k23_18 L) (s23_18 x0 x0n x0c x3 x3n x3c x4 M) M := ⟨_, rfl⟩
noncomputable def P23_18 : Rec → (Option Addr) → Nat → Nat → (Option Addr) → Nat → Nat → Int → AMem → Res := Classical.choose XP23_18
noncomputable def k23_19 (L : Rec) : KT := retK [.tmp 2]
def s23_19 (x3 : Option Addr) (x3n : Nat) (x3c : Nat) (M : AMem) : List Value := [junk, junk, junk, .slice x3 x3n x3c, junk, junk, junk, junk, junk, junk, junk, junk, junk, junk, junk, junk, junk, junk, junk, junk, junk, junk, junk, junk, junk, junk]
theorem XP23_19 : ∃ P : Rec → (Option Addr) → Nat → Nat → AMem → Res, P = fun (L : Rec) (x3 : Option Addr) (x3n : Nat) (x3c : Nat) (M : AMem) => code L c23_19 (k23_19 L) (s23_19 x3 x3n x3c M) M := ⟨_, rfl⟩
noncomputable def P23_19 : Rec → (Option Addr) → Nat → Nat → AMem → Res := Classical.choose XP23_19
theorem QP23_8_eq (L : Rec) (b23_8 c23_18 c23_19 : ACode) (hb : ∀ K t A, L.loop b23_8 K t A = code L (.post (.seq (.seq (.ops o23_11) (.cond (.tmp 8) (.skip) (.exit 0))) (.seq (.block 1 (.draw [] 0 o23_17 [])) (.clear zl25 c23_18))) zl25) (loopK L b23_8 K) t A) (P23_8 : Rec → (Option Addr) → Nat → Nat → (Option Addr) → Nat → Nat → Int → AMem → Res) (hP23_8 : P23_8 = fun (L : Rec) (x0 : Option Addr) (x0n : Nat) (x0c : Nat) (x3 : Option Addr) (x3n : Nat) (x3c : Nat) (x4 : Int) (M : AMem) => L.loop b23_8 (blockK 0 (seqK (code L (.clear zl39 c23_19) (retK [.tmp 2])) (retK [.tmp 2]))) (s23_8 x0 x0n x0c x3 x3n x3c x4 M) M) (P23_18 : Rec → (Option Addr) → Nat → Nat → (Option Addr) → Nat → Nat → Int → AMem → Res) (hP23_18 : P23_18 = fun (L : Rec) (x0 : Option Addr) (x0n : Nat) (x0c : Nat) (x3 : Option Addr) (x3n : Nat) (x3c : Nat) (x4 : Int) (M : AMem) => code L c23_18 (postK zl25 (loopK L b23_8 (blockK 0 (seqK (code L (.clear zl39 c23_19) (retK [.tmp 2])) (retK [.tmp 2]))))) (s23_18 x0 x0n x0c x3 x3n x3c x4 M) M) (P23_19 : Rec → (Option Addr) → Nat → Nat → AMem → Res) (hP23_19 : P23_19 = fun (L : Rec) (x3 : Option Addr) (x3n : Nat) (x3c : Nat) (M : AMem) => code L c23_19 (retK [.tmp 2]) (s23_19 x3 x3n x3c M) M) (x0 : Option Addr) (x0n : Nat) (x0c : Nat) (x3 : Option Addr) (x3n : Nat) (x3c : Nat) (x4 : Int) (M : AMem) : P23_8 L x0 x0n x0c x3 x3n x3c x4 M =
  (if (decide (x4 < (Int.ofNat x0n))) = true
    then (match x0 with
      | some a_1 => (if (0 : Int) ≤ x4 ∧ x4 < (Int.ofNat x0n)
        then (Option.bind (intOf? .i64 (AMem.ld M a_1.block (a_1.off + ((Int.toNat x4) * 4)))) fun x_2 =>
          (match x0 with
          | some a_3 => (if (0 : Int) ≤ x4 ∧ x4 < (Int.ofNat x0n)
            then (Option.bind (intOf? .u64 (AMem.ld M a_3.block ((a_3.off + ((Int.toNat x4) * 4)) + 1))) fun x_4 =>
              (Option.bind (intOf? .u64 (AMem.ld M a_3.block (((a_3.off + ((Int.toNat x4) * 4)) + 1) + 1))) fun x_5 =>
              (Option.bind (intOf? .u64 (AMem.ld M a_3.block (((a_3.off + ((Int.toNat x4) * 4)) + 1) + 2))) fun x_6 =>
              (Option.bind (rowOf (M ++ [AObj.cells [.int .i64 x_2, .int .u64 x_4, .int .u64 x_5, .int .u64 x_6] ⟨false, 0⟩]) 4 (.slice (some ⟨(List.length M), 0, none⟩) 1 4)) fun row_7 =>
              (appendK 4 32 x3 x3n x3c 1 row_7 (M ++ [AObj.cells [.int .i64 x_2, .int .u64 x_4, .int .u64 x_5, .int .u64 x_6] ⟨false, 0⟩]) fun p_8 n_9 c_10 M_11 =>
              P23_18 L x0 x0n x0c p_8 n_9 c_10 x4 M_11)))))
            else none)
          | none => none))
        else none)
      | none => none)
    else P23_19 L x3 x3n x3c M) := by
  subst hP23_8; subst hP23_18; subst hP23_19; exact (hb (blockK 0 (seqK (code L (.clear zl39 c23_19) (retK [.tmp 2])) (retK [.tmp 2]))) (s23_8 x0 x0n x0c x3 x3n x3c x4 M) M).trans (by kernel_rfl)
theorem P23_8_eq (L : Rec) (hL : ∀ b K t A, L.loop b K t A = code L b (loopK L b K) t A) (x0 : Option Addr) (x0n : Nat) (x0c : Nat) (x3 : Option Addr) (x3n : Nat) (x3c : Nat) (x4 : Int) (M : AMem) : P23_8 L x0 x0n x0c x3 x3n x3c x4 M =
  (if (decide (x4 < (Int.ofNat x0n))) = true
    then (match x0 with
      | some a_1 => (if (0 : Int) ≤ x4 ∧ x4 < (Int.ofNat x0n)
        then (Option.bind (intOf? .i64 (AMem.ld M a_1.block (a_1.off + ((Int.toNat x4) * 4)))) fun x_2 =>
          (match x0 with
          | some a_3 => (if (0 : Int) ≤ x4 ∧ x4 < (Int.ofNat x0n)
            then (Option.bind (intOf? .u64 (AMem.ld M a_3.block ((a_3.off + ((Int.toNat x4) * 4)) + 1))) fun x_4 =>
              (Option.bind (intOf? .u64 (AMem.ld M a_3.block (((a_3.off + ((Int.toNat x4) * 4)) + 1) + 1))) fun x_5 =>
              (Option.bind (intOf? .u64 (AMem.ld M a_3.block (((a_3.off + ((Int.toNat x4) * 4)) + 1) + 2))) fun x_6 =>
              (Option.bind (rowOf (M ++ [AObj.cells [.int .i64 x_2, .int .u64 x_4, .int .u64 x_5, .int .u64 x_6] ⟨false, 0⟩]) 4 (.slice (some ⟨(List.length M), 0, none⟩) 1 4)) fun row_7 =>
              (appendK 4 32 x3 x3n x3c 1 row_7 (M ++ [AObj.cells [.int .i64 x_2, .int .u64 x_4, .int .u64 x_5, .int .u64 x_6] ⟨false, 0⟩]) fun p_8 n_9 c_10 M_11 =>
              P23_18 L x0 x0n x0c p_8 n_9 c_10 x4 M_11)))))
            else none)
          | none => none))
        else none)
      | none => none)
    else P23_19 L x3 x3n x3c M) := QP23_8_eq L b23_8 c23_18 c23_19 (hL b23_8) P23_8 (Classical.choose_spec XP23_8) P23_18 (Classical.choose_spec XP23_18) P23_19 (Classical.choose_spec XP23_19) x0 x0n x0c x3 x3n x3c x4 M
theorem QP23_18_eq (L : Rec) (b23_8 c23_19 : ACode) (P23_8 : Rec → (Option Addr) → Nat → Nat → (Option Addr) → Nat → Nat → Int → AMem → Res) (hP23_8 : P23_8 = fun (L : Rec) (x0 : Option Addr) (x0n : Nat) (x0c : Nat) (x3 : Option Addr) (x3n : Nat) (x3c : Nat) (x4 : Int) (M : AMem) => L.loop b23_8 (blockK 0 (seqK (code L (.clear zl39 c23_19) (retK [.tmp 2])) (retK [.tmp 2]))) (s23_8 x0 x0n x0c x3 x3n x3c x4 M) M) (P23_18 : Rec → (Option Addr) → Nat → Nat → (Option Addr) → Nat → Nat → Int → AMem → Res) (hP23_18 : P23_18 = fun (L : Rec) (x0 : Option Addr) (x0n : Nat) (x0c : Nat) (x3 : Option Addr) (x3n : Nat) (x3c : Nat) (x4 : Int) (M : AMem) => code L (.ops o23_18) (postK zl25 (loopK L b23_8 (blockK 0 (seqK (code L (.clear zl39 c23_19) (retK [.tmp 2])) (retK [.tmp 2]))))) (s23_18 x0 x0n x0c x3 x3n x3c x4 M) M) (x0 : Option Addr) (x0n : Nat) (x0c : Nat) (x3 : Option Addr) (x3n : Nat) (x3c : Nat) (x4 : Int) (M : AMem) : P23_18 L x0 x0n x0c x3 x3n x3c x4 M =
  P23_8 L x0 x0n x0c x3 x3n x3c (IntKind.wrap .i64 (x4 + 1)) M := by
  subst hP23_8; subst hP23_18; kernel_rfl
theorem P23_18_eq (L : Rec) (x0 : Option Addr) (x0n : Nat) (x0c : Nat) (x3 : Option Addr) (x3n : Nat) (x3c : Nat) (x4 : Int) (M : AMem) : P23_18 L x0 x0n x0c x3 x3n x3c x4 M =
  P23_8 L x0 x0n x0c x3 x3n x3c (IntKind.wrap .i64 (x4 + 1)) M := QP23_18_eq L b23_8 c23_19 P23_8 (Classical.choose_spec XP23_8) P23_18 (Classical.choose_spec XP23_18) x0 x0n x0c x3 x3n x3c x4 M
theorem QP23_19_eq (L : Rec) (P23_19 : Rec → (Option Addr) → Nat → Nat → AMem → Res) (hP23_19 : P23_19 = fun (L : Rec) (x3 : Option Addr) (x3n : Nat) (x3c : Nat) (M : AMem) => code L (.seq (.ops o23_20) (.ret)) (retK [.tmp 2]) (s23_19 x3 x3n x3c M) M) (x3 : Option Addr) (x3n : Nat) (x3c : Nat) (M : AMem) : P23_19 L x3 x3n x3c M =
  some (.slice x3 x3n x3c, M) := by
  subst hP23_19; kernel_rfl
theorem P23_19_eq (L : Rec) (x3 : Option Addr) (x3n : Nat) (x3c : Nat) (M : AMem) : P23_19 L x3 x3n x3c M =
  some (.slice x3 x3n x3c, M) := QP23_19_eq L P23_19 (Classical.choose_spec XP23_19) x3 x3n x3c M
theorem QE23 (L : Rec) (b23_8 c23_19 : ACode) (P23_8 : Rec → (Option Addr) → Nat → Nat → (Option Addr) → Nat → Nat → Int → AMem → Res) (hP23_8 : P23_8 = fun (L : Rec) (x0 : Option Addr) (x0n : Nat) (x0c : Nat) (x3 : Option Addr) (x3n : Nat) (x3c : Nat) (x4 : Int) (M : AMem) => L.loop b23_8 (blockK 0 (seqK (code L (.clear zl39 c23_19) (retK [.tmp 2])) (retK [.tmp 2]))) (s23_8 x0 x0n x0c x3 x3n x3c x4 M) M) (x0 : Option Addr) (x0n : Nat) (x0c : Nat) (M : AMem) : enterF L ⟨26, [.tmp 2], .seq (.ops o23_1) (.seq (.ops o23_3) (.seq (.seq (.ops o23_6) (.block 0 (.clear zl25 (.loop b23_8)))) (.clear zl39 c23_19)))⟩ [.slice x0 x0n x0c] M =
  P23_8 L x0 x0n x0c none 0 0 0 M := by
  subst hP23_8; kernel_rfl
theorem E23 (L : Rec) (x0 : Option Addr) (x0n : Nat) (x0c : Nat) (M : AMem) : enterF L a23 [.slice x0 x0n x0c] M =
  P23_8 L x0 x0n x0c none 0 0 0 M := QE23 L b23_8 c23_19 P23_8 (Classical.choose_spec XP23_8) x0 x0n x0c M
/-! #### skylightlaw33.fits -/
noncomputable def k7_8 (L : Rec) : KT := blockK 0 (seqK (code L (.clear zl26 c7_19) (retK [.tmp 2])) (retK [.tmp 2]))
def s7_8 (x0 : Option Addr) (x0n : Nat) (x0c : Nat) (x3 : Int) (x4 : Int) (M : AMem) : List Value := [.slice x0 x0n x0c, junk, junk, .int .i64 x3, .int .i64 x4, junk, junk, junk, junk, junk, junk, junk, junk, junk, junk, junk, junk, junk, junk, junk, junk, junk, junk, junk, junk, junk]
theorem XP7_8 : ∃ P : Rec → (Option Addr) → Nat → Nat → Int → Int → AMem → Res, P = fun (L : Rec) (x0 : Option Addr) (x0n : Nat) (x0c : Nat) (x3 : Int) (x4 : Int) (M : AMem) => L.loop b7_8 (k7_8 L) (s7_8 x0 x0n x0c x3 x4 M) M := ⟨_, rfl⟩
noncomputable def P7_8 : Rec → (Option Addr) → Nat → Nat → Int → Int → AMem → Res := Classical.choose XP7_8
noncomputable def k7_18 (L : Rec) : KT := postK zl25 (loopK L b7_8 (blockK 0 (seqK (code L (.clear zl26 c7_19) (retK [.tmp 2])) (retK [.tmp 2]))))
def s7_18 (x0 : Option Addr) (x0n : Nat) (x0c : Nat) (x3 : Int) (x4 : Int) (M : AMem) : List Value := [.slice x0 x0n x0c, junk, junk, .int .i64 x3, .int .i64 x4, junk, junk, junk, junk, junk, junk, junk, junk, junk, junk, junk, junk, junk, junk, junk, junk, junk, junk, junk, junk, junk]
theorem XP7_18 : ∃ P : Rec → (Option Addr) → Nat → Nat → Int → Int → AMem → Res, P = fun (L : Rec) (x0 : Option Addr) (x0n : Nat) (x0c : Nat) (x3 : Int) (x4 : Int) (M : AMem) => code L c7_18 (k7_18 L) (s7_18 x0 x0n x0c x3 x4 M) M := ⟨_, rfl⟩
noncomputable def P7_18 : Rec → (Option Addr) → Nat → Nat → Int → Int → AMem → Res := Classical.choose XP7_18
noncomputable def k7_19 (L : Rec) : KT := retK [.tmp 2]
def s7_19 (x0 : Option Addr) (x0n : Nat) (x0c : Nat) (x3 : Int) (M : AMem) : List Value := [.slice x0 x0n x0c, junk, junk, .int .i64 x3, junk, junk, junk, junk, junk, junk, junk, junk, junk, junk, junk, junk, junk, junk, junk, junk, junk, junk, junk, junk, junk, junk]
theorem XP7_19 : ∃ P : Rec → (Option Addr) → Nat → Nat → Int → AMem → Res, P = fun (L : Rec) (x0 : Option Addr) (x0n : Nat) (x0c : Nat) (x3 : Int) (M : AMem) => code L c7_19 (k7_19 L) (s7_19 x0 x0n x0c x3 M) M := ⟨_, rfl⟩
noncomputable def P7_19 : Rec → (Option Addr) → Nat → Nat → Int → AMem → Res := Classical.choose XP7_19
theorem QP7_8_eq (L : Rec) (b7_8 c7_18 c7_19 : ACode) (hb : ∀ K t A, L.loop b7_8 K t A = code L (.post (.seq (.seq (.ops o7_11) (.cond (.tmp 8) (.skip) (.exit 0))) (.seq (.block 1 (.ops o7_17)) (.clear zl25 c7_18))) zl25) (loopK L b7_8 K) t A) (P7_8 : Rec → (Option Addr) → Nat → Nat → Int → Int → AMem → Res) (hP7_8 : P7_8 = fun (L : Rec) (x0 : Option Addr) (x0n : Nat) (x0c : Nat) (x3 : Int) (x4 : Int) (M : AMem) => L.loop b7_8 (blockK 0 (seqK (code L (.clear zl26 c7_19) (retK [.tmp 2])) (retK [.tmp 2]))) (s7_8 x0 x0n x0c x3 x4 M) M) (P7_18 : Rec → (Option Addr) → Nat → Nat → Int → Int → AMem → Res) (hP7_18 : P7_18 = fun (L : Rec) (x0 : Option Addr) (x0n : Nat) (x0c : Nat) (x3 : Int) (x4 : Int) (M : AMem) => code L c7_18 (postK zl25 (loopK L b7_8 (blockK 0 (seqK (code L (.clear zl26 c7_19) (retK [.tmp 2])) (retK [.tmp 2]))))) (s7_18 x0 x0n x0c x3 x4 M) M) (P7_19 : Rec → (Option Addr) → Nat → Nat → Int → AMem → Res) (hP7_19 : P7_19 = fun (L : Rec) (x0 : Option Addr) (x0n : Nat) (x0c : Nat) (x3 : Int) (M : AMem) => code L c7_19 (retK [.tmp 2]) (s7_19 x0 x0n x0c x3 M) M) (x0 : Option Addr) (x0n : Nat) (x0c : Nat) (x3 : Int) (x4 : Int) (M : AMem) : P7_8 L x0 x0n x0c x3 x4 M =
  (if (decide (x4 < (Int.ofNat x0n))) = true
    then (match x0 with
      | some a_1 => (if (0 : Int) ≤ x4 ∧ x4 < (Int.ofNat x0n)
        then (Option.bind (sliceOf? (AMem.ld M a_1.block ((a_1.off + ((Int.toNat x4) * 2)) + 1))) fun s_2 =>
          P7_18 L x0 x0n x0c (IntKind.wrap .i64 (x3 + (Int.ofNat s_2.2.1))) x4 M)
        else none)
      | none => none)
    else P7_19 L x0 x0n x0c x3 M) := by
  subst hP7_8; subst hP7_18; subst hP7_19; exact (hb (blockK 0 (seqK (code L (.clear zl26 c7_19) (retK [.tmp 2])) (retK [.tmp 2]))) (s7_8 x0 x0n x0c x3 x4 M) M).trans (by kernel_rfl)
theorem P7_8_eq (L : Rec) (hL : ∀ b K t A, L.loop b K t A = code L b (loopK L b K) t A) (x0 : Option Addr) (x0n : Nat) (x0c : Nat) (x3 : Int) (x4 : Int) (M : AMem) : P7_8 L x0 x0n x0c x3 x4 M =
  (if (decide (x4 < (Int.ofNat x0n))) = true
    then (match x0 with
      | some a_1 => (if (0 : Int) ≤ x4 ∧ x4 < (Int.ofNat x0n)
        then (Option.bind (sliceOf? (AMem.ld M a_1.block ((a_1.off + ((Int.toNat x4) * 2)) + 1))) fun s_2 =>
          P7_18 L x0 x0n x0c (IntKind.wrap .i64 (x3 + (Int.ofNat s_2.2.1))) x4 M)
        else none)
      | none => none)
    else P7_19 L x0 x0n x0c x3 M) := QP7_8_eq L b7_8 c7_18 c7_19 (hL b7_8) P7_8 (Classical.choose_spec XP7_8) P7_18 (Classical.choose_spec XP7_18) P7_19 (Classical.choose_spec XP7_19) x0 x0n x0c x3 x4 M
theorem QP7_18_eq (L : Rec) (b7_8 c7_19 : ACode) (P7_8 : Rec → (Option Addr) → Nat → Nat → Int → Int → AMem → Res) (hP7_8 : P7_8 = fun (L : Rec) (x0 : Option Addr) (x0n : Nat) (x0c : Nat) (x3 : Int) (x4 : Int) (M : AMem) => L.loop b7_8 (blockK 0 (seqK (code L (.clear zl26 c7_19) (retK [.tmp 2])) (retK [.tmp 2]))) (s7_8 x0 x0n x0c x3 x4 M) M) (P7_18 : Rec → (Option Addr) → Nat → Nat → Int → Int → AMem → Res) (hP7_18 : P7_18 = fun (L : Rec) (x0 : Option Addr) (x0n : Nat) (x0c : Nat) (x3 : Int) (x4 : Int) (M : AMem) => code L (.ops o7_18) (postK zl25 (loopK L b7_8 (blockK 0 (seqK (code L (.clear zl26 c7_19) (retK [.tmp 2])) (retK [.tmp 2]))))) (s7_18 x0 x0n x0c x3 x4 M) M) (x0 : Option Addr) (x0n : Nat) (x0c : Nat) (x3 : Int) (x4 : Int) (M : AMem) : P7_18 L x0 x0n x0c x3 x4 M =
  P7_8 L x0 x0n x0c x3 (IntKind.wrap .i64 (x4 + 1)) M := by
  subst hP7_8; subst hP7_18; kernel_rfl
theorem P7_18_eq (L : Rec) (x0 : Option Addr) (x0n : Nat) (x0c : Nat) (x3 : Int) (x4 : Int) (M : AMem) : P7_18 L x0 x0n x0c x3 x4 M =
  P7_8 L x0 x0n x0c x3 (IntKind.wrap .i64 (x4 + 1)) M := QP7_18_eq L b7_8 c7_19 P7_8 (Classical.choose_spec XP7_8) P7_18 (Classical.choose_spec XP7_18) x0 x0n x0c x3 x4 M
theorem QP7_19_eq (L : Rec) (P7_19 : Rec → (Option Addr) → Nat → Nat → Int → AMem → Res) (hP7_19 : P7_19 = fun (L : Rec) (x0 : Option Addr) (x0n : Nat) (x0c : Nat) (x3 : Int) (M : AMem) => code L (.seq (.ops o7_20) (.ret)) (retK [.tmp 2]) (s7_19 x0 x0n x0c x3 M) M) (x0 : Option Addr) (x0n : Nat) (x0c : Nat) (x3 : Int) (M : AMem) : P7_19 L x0 x0n x0c x3 M =
  (if (decide ((Int.ofNat x0n) ≤ 6)) = true
    then some (.bool (decide (x3 ≤ 24)), M)
    else some (.bool false, M)) := by
  subst hP7_19; kernel_rfl
theorem P7_19_eq (L : Rec) (x0 : Option Addr) (x0n : Nat) (x0c : Nat) (x3 : Int) (M : AMem) : P7_19 L x0 x0n x0c x3 M =
  (if (decide ((Int.ofNat x0n) ≤ 6)) = true
    then some (.bool (decide (x3 ≤ 24)), M)
    else some (.bool false, M)) := QP7_19_eq L P7_19 (Classical.choose_spec XP7_19) x0 x0n x0c x3 M
theorem QE7 (L : Rec) (b7_8 c7_19 : ACode) (P7_8 : Rec → (Option Addr) → Nat → Nat → Int → Int → AMem → Res) (hP7_8 : P7_8 = fun (L : Rec) (x0 : Option Addr) (x0n : Nat) (x0c : Nat) (x3 : Int) (x4 : Int) (M : AMem) => L.loop b7_8 (blockK 0 (seqK (code L (.clear zl26 c7_19) (retK [.tmp 2])) (retK [.tmp 2]))) (s7_8 x0 x0n x0c x3 x4 M) M) (x0 : Option Addr) (x0n : Nat) (x0c : Nat) (M : AMem) : enterF L ⟨26, [.tmp 2], .seq (.ops o7_1) (.seq (.ops o7_3) (.seq (.seq (.ops o7_6) (.block 0 (.clear zl25 (.loop b7_8)))) (.clear zl26 c7_19)))⟩ [.slice x0 x0n x0c] M =
  P7_8 L x0 x0n x0c 0 0 M := by
  subst hP7_8; kernel_rfl
theorem E7 (L : Rec) (x0 : Option Addr) (x0n : Nat) (x0c : Nat) (M : AMem) : enterF L a7 [.slice x0 x0n x0c] M =
  P7_8 L x0 x0n x0c 0 0 M := QE7 L b7_8 c7_19 P7_8 (Classical.choose_spec XP7_8) x0 x0n x0c M
/-! #### skylightlaw33.same -/
noncomputable def k16_14 (L : Rec) : KT := blockK 0 (seqK (code L (.clear zl34 c16_31) (retK [.tmp 4])) (retK [.tmp 4]))
def s16_14 (x0 : Option Addr) (x0n : Nat) (x0c : Nat) (x1 : Option Addr) (x1n : Nat) (x1c : Nat) (x5 : Int) (M : AMem) : List Value := [.slice x0 x0n x0c, .slice x1 x1n x1c, junk, junk, junk, .int .i64 x5, junk, junk, junk, junk, junk, junk, junk, junk, junk, junk, junk, junk, junk, junk, junk, junk, junk, junk, junk, junk]
theorem XP16_14 : ∃ P : Rec → (Option Addr) → Nat → Nat → (Option Addr) → Nat → Nat → Int → AMem → Res, P = fun (L : Rec) (x0 : Option Addr) (x0n : Nat) (x0c : Nat) (x1 : Option Addr) (x1n : Nat) (x1c : Nat) (x5 : Int) (M : AMem) => L.loop b16_14 (k16_14 L) (s16_14 x0 x0n x0c x1 x1n x1c x5 M) M := ⟨_, rfl⟩
noncomputable def P16_14 : Rec → (Option Addr) → Nat → Nat → (Option Addr) → Nat → Nat → Int → AMem → Res := Classical.choose XP16_14
noncomputable def k16_30 (L : Rec) : KT := postK zl33 (loopK L b16_14 (blockK 0 (seqK (code L (.clear zl34 c16_31) (retK [.tmp 4])) (retK [.tmp 4]))))
def s16_30 (x0 : Option Addr) (x0n : Nat) (x0c : Nat) (x1 : Option Addr) (x1n : Nat) (x1c : Nat) (x5 : Int) (M : AMem) : List Value := [.slice x0 x0n x0c, .slice x1 x1n x1c, junk, junk, junk, .int .i64 x5, junk, junk, junk, junk, junk, junk, junk, junk, junk, junk, junk, junk, junk, junk, junk, junk, junk, junk, junk, junk]
theorem XP16_30 : ∃ P : Rec → (Option Addr) → Nat → Nat → (Option Addr) → Nat → Nat → Int → AMem → Res, P = fun (L : Rec) (x0 : Option Addr) (x0n : Nat) (x0c : Nat) (x1 : Option Addr) (x1n : Nat) (x1c : Nat) (x5 : Int) (M : AMem) => code L c16_30 (k16_30 L) (s16_30 x0 x0n x0c x1 x1n x1c x5 M) M := ⟨_, rfl⟩
noncomputable def P16_30 : Rec → (Option Addr) → Nat → Nat → (Option Addr) → Nat → Nat → Int → AMem → Res := Classical.choose XP16_30
noncomputable def k16_31 (L : Rec) : KT := retK [.tmp 4]
def s16_31 (M : AMem) : List Value := [junk, junk, junk, junk, junk, junk, junk, junk, junk, junk, junk, junk, junk, junk, junk, junk, junk, junk, junk, junk, junk, junk, junk, junk, junk, junk]
theorem XP16_31 : ∃ P : Rec → AMem → Res, P = fun (L : Rec) (M : AMem) => code L c16_31 (k16_31 L) (s16_31 M) M := ⟨_, rfl⟩
noncomputable def P16_31 : Rec → AMem → Res := Classical.choose XP16_31
theorem QP16_14_eq (L : Rec) (b16_14 c16_30 c16_31 : ACode) (hb : ∀ K t A, L.loop b16_14 K t A = code L (.post (.seq (.seq (.ops o16_17) (.cond (.tmp 14) (.skip) (.exit 0))) (.seq (.block 1 (.seq (.draw [] 0 o16_24 []) (.cond (.tmp 25) (.seq (.ops o16_27) (.ret)) (.skip)))) (.clear zl33 c16_30))) zl33) (loopK L b16_14 K) t A) (P16_14 : Rec → (Option Addr) → Nat → Nat → (Option Addr) → Nat → Nat → Int → AMem → Res) (hP16_14 : P16_14 = fun (L : Rec) (x0 : Option Addr) (x0n : Nat) (x0c : Nat) (x1 : Option Addr) (x1n : Nat) (x1c : Nat) (x5 : Int) (M : AMem) => L.loop b16_14 (blockK 0 (seqK (code L (.clear zl34 c16_31) (retK [.tmp 4])) (retK [.tmp 4]))) (s16_14 x0 x0n x0c x1 x1n x1c x5 M) M) (P16_30 : Rec → (Option Addr) → Nat → Nat → (Option Addr) → Nat → Nat → Int → AMem → Res) (hP16_30 : P16_30 = fun (L : Rec) (x0 : Option Addr) (x0n : Nat) (x0c : Nat) (x1 : Option Addr) (x1n : Nat) (x1c : Nat) (x5 : Int) (M : AMem) => code L c16_30 (postK zl33 (loopK L b16_14 (blockK 0 (seqK (code L (.clear zl34 c16_31) (retK [.tmp 4])) (retK [.tmp 4]))))) (s16_30 x0 x0n x0c x1 x1n x1c x5 M) M) (P16_31 : Rec → AMem → Res) (hP16_31 : P16_31 = fun (L : Rec) (M : AMem) => code L c16_31 (retK [.tmp 4]) (s16_31 M) M) (x0 : Option Addr) (x0n : Nat) (x0c : Nat) (x1 : Option Addr) (x1n : Nat) (x1c : Nat) (x5 : Int) (M : AMem) : P16_14 L x0 x0n x0c x1 x1n x1c x5 M =
  (if (decide (x5 < (Int.ofNat x0n))) = true
    then (match x0 with
      | some a_1 => (if (0 : Int) ≤ x5 ∧ x5 < (Int.ofNat x0n)
        then (Option.bind (intOf? .u64 (AMem.ld M a_1.block (a_1.off + ((Int.toNat x5) * 1)))) fun x_2 =>
          (match x1 with
          | some a_3 => (if (0 : Int) ≤ x5 ∧ x5 < (Int.ofNat x1n)
            then (Option.bind (intOf? .u64 (AMem.ld M a_3.block (a_3.off + ((Int.toNat x5) * 1)))) fun x_4 =>
              (if (x_2 != x_4) = true
              then some (.bool false, M)
              else P16_30 L x0 x0n x0c x1 x1n x1c x5 M))
            else none)
          | none => none))
        else none)
      | none => none)
    else P16_31 L M) := by
  subst hP16_14; subst hP16_30; subst hP16_31; exact (hb (blockK 0 (seqK (code L (.clear zl34 c16_31) (retK [.tmp 4])) (retK [.tmp 4]))) (s16_14 x0 x0n x0c x1 x1n x1c x5 M) M).trans (by kernel_rfl)
theorem P16_14_eq (L : Rec) (hL : ∀ b K t A, L.loop b K t A = code L b (loopK L b K) t A) (x0 : Option Addr) (x0n : Nat) (x0c : Nat) (x1 : Option Addr) (x1n : Nat) (x1c : Nat) (x5 : Int) (M : AMem) : P16_14 L x0 x0n x0c x1 x1n x1c x5 M =
  (if (decide (x5 < (Int.ofNat x0n))) = true
    then (match x0 with
      | some a_1 => (if (0 : Int) ≤ x5 ∧ x5 < (Int.ofNat x0n)
        then (Option.bind (intOf? .u64 (AMem.ld M a_1.block (a_1.off + ((Int.toNat x5) * 1)))) fun x_2 =>
          (match x1 with
          | some a_3 => (if (0 : Int) ≤ x5 ∧ x5 < (Int.ofNat x1n)
            then (Option.bind (intOf? .u64 (AMem.ld M a_3.block (a_3.off + ((Int.toNat x5) * 1)))) fun x_4 =>
              (if (x_2 != x_4) = true
              then some (.bool false, M)
              else P16_30 L x0 x0n x0c x1 x1n x1c x5 M))
            else none)
          | none => none))
        else none)
      | none => none)
    else P16_31 L M) := QP16_14_eq L b16_14 c16_30 c16_31 (hL b16_14) P16_14 (Classical.choose_spec XP16_14) P16_30 (Classical.choose_spec XP16_30) P16_31 (Classical.choose_spec XP16_31) x0 x0n x0c x1 x1n x1c x5 M
theorem QP16_30_eq (L : Rec) (b16_14 c16_31 : ACode) (P16_14 : Rec → (Option Addr) → Nat → Nat → (Option Addr) → Nat → Nat → Int → AMem → Res) (hP16_14 : P16_14 = fun (L : Rec) (x0 : Option Addr) (x0n : Nat) (x0c : Nat) (x1 : Option Addr) (x1n : Nat) (x1c : Nat) (x5 : Int) (M : AMem) => L.loop b16_14 (blockK 0 (seqK (code L (.clear zl34 c16_31) (retK [.tmp 4])) (retK [.tmp 4]))) (s16_14 x0 x0n x0c x1 x1n x1c x5 M) M) (P16_30 : Rec → (Option Addr) → Nat → Nat → (Option Addr) → Nat → Nat → Int → AMem → Res) (hP16_30 : P16_30 = fun (L : Rec) (x0 : Option Addr) (x0n : Nat) (x0c : Nat) (x1 : Option Addr) (x1n : Nat) (x1c : Nat) (x5 : Int) (M : AMem) => code L (.ops o16_30) (postK zl33 (loopK L b16_14 (blockK 0 (seqK (code L (.clear zl34 c16_31) (retK [.tmp 4])) (retK [.tmp 4]))))) (s16_30 x0 x0n x0c x1 x1n x1c x5 M) M) (x0 : Option Addr) (x0n : Nat) (x0c : Nat) (x1 : Option Addr) (x1n : Nat) (x1c : Nat) (x5 : Int) (M : AMem) : P16_30 L x0 x0n x0c x1 x1n x1c x5 M =
  P16_14 L x0 x0n x0c x1 x1n x1c (IntKind.wrap .i64 (x5 + 1)) M := by
  subst hP16_14; subst hP16_30; kernel_rfl
theorem P16_30_eq (L : Rec) (x0 : Option Addr) (x0n : Nat) (x0c : Nat) (x1 : Option Addr) (x1n : Nat) (x1c : Nat) (x5 : Int) (M : AMem) : P16_30 L x0 x0n x0c x1 x1n x1c x5 M =
  P16_14 L x0 x0n x0c x1 x1n x1c (IntKind.wrap .i64 (x5 + 1)) M := QP16_30_eq L b16_14 c16_31 P16_14 (Classical.choose_spec XP16_14) P16_30 (Classical.choose_spec XP16_30) x0 x0n x0c x1 x1n x1c x5 M
theorem QP16_31_eq (L : Rec) (P16_31 : Rec → AMem → Res) (hP16_31 : P16_31 = fun (L : Rec) (M : AMem) => code L (.seq (.ops o16_32) (.ret)) (retK [.tmp 4]) (s16_31 M) M) (M : AMem) : P16_31 L M =
  some (.bool true, M) := by
  subst hP16_31; kernel_rfl
theorem P16_31_eq (L : Rec) (M : AMem) : P16_31 L M =
  some (.bool true, M) := QP16_31_eq L P16_31 (Classical.choose_spec XP16_31) M
theorem QE16 (L : Rec) (b16_14 c16_31 : ACode) (P16_14 : Rec → (Option Addr) → Nat → Nat → (Option Addr) → Nat → Nat → Int → AMem → Res) (hP16_14 : P16_14 = fun (L : Rec) (x0 : Option Addr) (x0n : Nat) (x0c : Nat) (x1 : Option Addr) (x1n : Nat) (x1c : Nat) (x5 : Int) (M : AMem) => L.loop b16_14 (blockK 0 (seqK (code L (.clear zl34 c16_31) (retK [.tmp 4])) (retK [.tmp 4]))) (s16_14 x0 x0n x0c x1 x1n x1c x5 M) M) (x0 : Option Addr) (x0n : Nat) (x0c : Nat) (x1 : Option Addr) (x1n : Nat) (x1c : Nat) (M : AMem) : enterF L ⟨26, [.tmp 4], .seq (.ops o16_1) (.seq (.seq (.ops o16_4) (.cond (.tmp 10) (.seq (.ops o16_7) (.ret)) (.skip))) (.seq (.seq (.ops o16_12) (.block 0 (.clear zl33 (.loop b16_14)))) (.clear zl34 c16_31)))⟩ [.slice x0 x0n x0c, .slice x1 x1n x1c] M =
  (if ((Int.ofNat x0n) != (Int.ofNat x1n)) = true
    then some (.bool false, M)
    else P16_14 L x0 x0n x0c x1 x1n x1c 0 M) := by
  subst hP16_14; kernel_rfl
theorem E16 (L : Rec) (x0 : Option Addr) (x0n : Nat) (x0c : Nat) (x1 : Option Addr) (x1n : Nat) (x1c : Nat) (M : AMem) : enterF L a16 [.slice x0 x0n x0c, .slice x1 x1n x1c] M =
  (if ((Int.ofNat x0n) != (Int.ofNat x1n)) = true
    then some (.bool false, M)
    else P16_14 L x0 x0n x0c x1 x1n x1c 0 M) := QE16 L b16_14 c16_31 P16_14 (Classical.choose_spec XP16_14) x0 x0n x0c x1 x1n x1c M
/-! #### skylightlaw33.made -/
noncomputable def k11_8 (L : Rec) : KT := blockK 0 (seqK (code L (.clear zl29 c11_25) (retK [.tmp 4])) (retK [.tmp 4]))
def s11_8 (x1 : Option Addr) (x1n : Nat) (x1c : Nat) (x2 : Nat) (x5 : Option Addr) (x5n : Nat) (x5c : Nat) (x6 : Int) (M : AMem) : List Value := [junk, .slice x1 x1n x1c, .pointer (some ⟨x2, 0, none⟩), junk, junk, .slice x5 x5n x5c, .int .i64 x6, junk, junk, junk, junk, junk, junk, junk, junk, junk, junk, junk, junk, junk, junk, junk, junk, junk, junk, junk, junk, junk, junk, junk, junk, junk, junk, junk, junk]
theorem XP11_8 : ∃ P : Rec → (Option Addr) → Nat → Nat → Nat → (Option Addr) → Nat → Nat → Int → AMem → Res, P = fun (L : Rec) (x1 : Option Addr) (x1n : Nat) (x1c : Nat) (x2 : Nat) (x5 : Option Addr) (x5n : Nat) (x5c : Nat) (x6 : Int) (M : AMem) => L.loop b11_8 (k11_8 L) (s11_8 x1 x1n x1c x2 x5 x5n x5c x6 M) M := ⟨_, rfl⟩
noncomputable def P11_8 : Rec → (Option Addr) → Nat → Nat → Nat → (Option Addr) → Nat → Nat → Int → AMem → Res := Classical.choose XP11_8
noncomputable def k11_24 (L : Rec) : KT := postK zl28 (loopK L b11_8 (blockK 0 (seqK (code L (.clear zl29 c11_25) (retK [.tmp 4])) (retK [.tmp 4]))))
def s11_24 (x1 : Option Addr) (x1n : Nat) (x1c : Nat) (x2 : Nat) (x5 : Option Addr) (x5n : Nat) (x5c : Nat) (x6 : Int) (M : AMem) : List Value := [junk, .slice x1 x1n x1c, .pointer (some ⟨x2, 0, none⟩), junk, junk, .slice x5 x5n x5c, .int .i64 x6, junk, junk, junk, junk, junk, junk, junk, junk, junk, junk, junk, junk, junk, junk, junk, junk, junk, junk, junk, junk, junk, junk, junk, junk, junk, junk, junk, junk]
theorem XP11_24 : ∃ P : Rec → (Option Addr) → Nat → Nat → Nat → (Option Addr) → Nat → Nat → Int → AMem → Res, P = fun (L : Rec) (x1 : Option Addr) (x1n : Nat) (x1c : Nat) (x2 : Nat) (x5 : Option Addr) (x5n : Nat) (x5c : Nat) (x6 : Int) (M : AMem) => code L c11_24 (k11_24 L) (s11_24 x1 x1n x1c x2 x5 x5n x5c x6 M) M := ⟨_, rfl⟩
noncomputable def P11_24 : Rec → (Option Addr) → Nat → Nat → Nat → (Option Addr) → Nat → Nat → Int → AMem → Res := Classical.choose XP11_24
noncomputable def k11_25 (L : Rec) : KT := retK [.tmp 4]
def s11_25 (x5 : Option Addr) (x5n : Nat) (x5c : Nat) (M : AMem) : List Value := [junk, junk, junk, junk, junk, .slice x5 x5n x5c, junk, junk, junk, junk, junk, junk, junk, junk, junk, junk, junk, junk, junk, junk, junk, junk, junk, junk, junk, junk, junk, junk, junk, junk, junk, junk, junk, junk, junk]
theorem XP11_25 : ∃ P : Rec → (Option Addr) → Nat → Nat → AMem → Res, P = fun (L : Rec) (x5 : Option Addr) (x5n : Nat) (x5c : Nat) (M : AMem) => code L c11_25 (k11_25 L) (s11_25 x5 x5n x5c M) M := ⟨_, rfl⟩
noncomputable def P11_25 : Rec → (Option Addr) → Nat → Nat → AMem → Res := Classical.choose XP11_25
theorem QP11_8_eq (L : Rec) (b11_8 c11_24 c11_25 : ACode) (hb : ∀ K t A, L.loop b11_8 K t A = code L (.post (.seq (.seq (.ops o11_11) (.cond (.tmp 11) (.skip) (.exit 0))) (.seq (.block 1 (.seq (.draw [] 0 o11_18 [(6, 12)]) (.seq (.ops o11_20) (.cond (.tmp 29) (.ops o11_22) (.skip))))) (.clear zl28 c11_24))) zl28) (loopK L b11_8 K) t A) (P11_8 : Rec → (Option Addr) → Nat → Nat → Nat → (Option Addr) → Nat → Nat → Int → AMem → Res) (hP11_8 : P11_8 = fun (L : Rec) (x1 : Option Addr) (x1n : Nat) (x1c : Nat) (x2 : Nat) (x5 : Option Addr) (x5n : Nat) (x5c : Nat) (x6 : Int) (M : AMem) => L.loop b11_8 (blockK 0 (seqK (code L (.clear zl29 c11_25) (retK [.tmp 4])) (retK [.tmp 4]))) (s11_8 x1 x1n x1c x2 x5 x5n x5c x6 M) M) (P11_24 : Rec → (Option Addr) → Nat → Nat → Nat → (Option Addr) → Nat → Nat → Int → AMem → Res) (hP11_24 : P11_24 = fun (L : Rec) (x1 : Option Addr) (x1n : Nat) (x1c : Nat) (x2 : Nat) (x5 : Option Addr) (x5n : Nat) (x5c : Nat) (x6 : Int) (M : AMem) => code L c11_24 (postK zl28 (loopK L b11_8 (blockK 0 (seqK (code L (.clear zl29 c11_25) (retK [.tmp 4])) (retK [.tmp 4]))))) (s11_24 x1 x1n x1c x2 x5 x5n x5c x6 M) M) (P11_25 : Rec → (Option Addr) → Nat → Nat → AMem → Res) (hP11_25 : P11_25 = fun (L : Rec) (x5 : Option Addr) (x5n : Nat) (x5c : Nat) (M : AMem) => code L c11_25 (retK [.tmp 4]) (s11_25 x5 x5n x5c M) M) (x1 : Option Addr) (x1n : Nat) (x1c : Nat) (x2 : Nat) (x5 : Option Addr) (x5n : Nat) (x5c : Nat) (x6 : Int) (M : AMem) : P11_8 L x1 x1n x1c x2 x5 x5n x5c x6 M =
  (if (decide (x6 < (Int.ofNat x1n))) = true
    then (Option.bind (intOf? .i64 (AMem.ld M x2 0)) fun x_1 =>
      (Option.bind (intOf? .i64 (AMem.ld M x2 1)) fun x_2 =>
      (Option.bind (L.call 22 [.agg #[.int .i64 x_1, .int .i64 x_2]] []) fun r_3 =>
      (Option.bind (aggOf? 2 r_3.1) fun cs_4 =>
      (Option.bind (intOf? .i64 (cs_4[0]?)) fun x_5 =>
      (Option.bind (intOf? .i64 (cs_4[1]?)) fun x_6 =>
      (match x1 with
      | some a_7 => (if (0 : Int) ≤ x6 ∧ x6 < (Int.ofNat x1n)
        then (Option.bind (intOf? .i64 (AMem.ld M a_7.block (a_7.off + ((Int.toNat x6) * 2)))) fun x_8 =>
          (match x1 with
          | some a_9 => (if (0 : Int) ≤ x6 ∧ x6 < (Int.ofNat x1n)
            then (Option.bind (sliceOf? (AMem.ld M a_9.block ((a_9.off + ((Int.toNat x6) * 2)) + 1))) fun s_10 =>
              (Option.bind (L.call 23 [.slice s_10.1 s_10.2.1 s_10.2.2] M) fun r_11 =>
              (Option.bind (sliceOf? (some r_11.1)) fun s_12 =>
              (Option.bind (L.call 21 [.agg #[.int .i64 x_5, .int .i64 x_6], .int .i64 x_8, .slice s_12.1 s_12.2.1 s_12.2.2] r_11.2) fun r_13 =>
              (Option.bind (ptrOf? (some r_13.1)) fun p_14 =>
              (if chkOk [(6, 12)] [(6, a_7.block)] [(12, (M, r_11.2))] = true
              then (if (!(Option.isNone p_14)) = true
                then (Option.bind (rowOf (r_13.2 ++ [AObj.cells [.pointer p_14] ⟨false, 0⟩]) 1 (.slice (some ⟨(List.length r_13.2), 0, none⟩) 1 1)) fun row_15 =>
                  (appendK 1 8 x5 x5n x5c 1 row_15 (r_13.2 ++ [AObj.cells [.pointer p_14] ⟨false, 0⟩]) fun p_16 n_17 c_18 M_19 =>
                  P11_24 L x1 x1n x1c x2 p_16 n_17 c_18 x6 M_19))
                else P11_24 L x1 x1n x1c x2 x5 x5n x5c x6 r_13.2)
              else none))))))
            else none)
          | none => none))
        else none)
      | none => none)))))))
    else P11_25 L x5 x5n x5c M) := by
  subst hP11_8; subst hP11_24; subst hP11_25; exact (hb (blockK 0 (seqK (code L (.clear zl29 c11_25) (retK [.tmp 4])) (retK [.tmp 4]))) (s11_8 x1 x1n x1c x2 x5 x5n x5c x6 M) M).trans (by kernel_rfl)
theorem P11_8_eq (L : Rec) (hL : ∀ b K t A, L.loop b K t A = code L b (loopK L b K) t A) (x1 : Option Addr) (x1n : Nat) (x1c : Nat) (x2 : Nat) (x5 : Option Addr) (x5n : Nat) (x5c : Nat) (x6 : Int) (M : AMem) : P11_8 L x1 x1n x1c x2 x5 x5n x5c x6 M =
  (if (decide (x6 < (Int.ofNat x1n))) = true
    then (Option.bind (intOf? .i64 (AMem.ld M x2 0)) fun x_1 =>
      (Option.bind (intOf? .i64 (AMem.ld M x2 1)) fun x_2 =>
      (Option.bind (L.call 22 [.agg #[.int .i64 x_1, .int .i64 x_2]] []) fun r_3 =>
      (Option.bind (aggOf? 2 r_3.1) fun cs_4 =>
      (Option.bind (intOf? .i64 (cs_4[0]?)) fun x_5 =>
      (Option.bind (intOf? .i64 (cs_4[1]?)) fun x_6 =>
      (match x1 with
      | some a_7 => (if (0 : Int) ≤ x6 ∧ x6 < (Int.ofNat x1n)
        then (Option.bind (intOf? .i64 (AMem.ld M a_7.block (a_7.off + ((Int.toNat x6) * 2)))) fun x_8 =>
          (match x1 with
          | some a_9 => (if (0 : Int) ≤ x6 ∧ x6 < (Int.ofNat x1n)
            then (Option.bind (sliceOf? (AMem.ld M a_9.block ((a_9.off + ((Int.toNat x6) * 2)) + 1))) fun s_10 =>
              (Option.bind (L.call 23 [.slice s_10.1 s_10.2.1 s_10.2.2] M) fun r_11 =>
              (Option.bind (sliceOf? (some r_11.1)) fun s_12 =>
              (Option.bind (L.call 21 [.agg #[.int .i64 x_5, .int .i64 x_6], .int .i64 x_8, .slice s_12.1 s_12.2.1 s_12.2.2] r_11.2) fun r_13 =>
              (Option.bind (ptrOf? (some r_13.1)) fun p_14 =>
              (if chkOk [(6, 12)] [(6, a_7.block)] [(12, (M, r_11.2))] = true
              then (if (!(Option.isNone p_14)) = true
                then (Option.bind (rowOf (r_13.2 ++ [AObj.cells [.pointer p_14] ⟨false, 0⟩]) 1 (.slice (some ⟨(List.length r_13.2), 0, none⟩) 1 1)) fun row_15 =>
                  (appendK 1 8 x5 x5n x5c 1 row_15 (r_13.2 ++ [AObj.cells [.pointer p_14] ⟨false, 0⟩]) fun p_16 n_17 c_18 M_19 =>
                  P11_24 L x1 x1n x1c x2 p_16 n_17 c_18 x6 M_19))
                else P11_24 L x1 x1n x1c x2 x5 x5n x5c x6 r_13.2)
              else none))))))
            else none)
          | none => none))
        else none)
      | none => none)))))))
    else P11_25 L x5 x5n x5c M) := QP11_8_eq L b11_8 c11_24 c11_25 (hL b11_8) P11_8 (Classical.choose_spec XP11_8) P11_24 (Classical.choose_spec XP11_24) P11_25 (Classical.choose_spec XP11_25) x1 x1n x1c x2 x5 x5n x5c x6 M
theorem QP11_24_eq (L : Rec) (b11_8 c11_25 : ACode) (P11_8 : Rec → (Option Addr) → Nat → Nat → Nat → (Option Addr) → Nat → Nat → Int → AMem → Res) (hP11_8 : P11_8 = fun (L : Rec) (x1 : Option Addr) (x1n : Nat) (x1c : Nat) (x2 : Nat) (x5 : Option Addr) (x5n : Nat) (x5c : Nat) (x6 : Int) (M : AMem) => L.loop b11_8 (blockK 0 (seqK (code L (.clear zl29 c11_25) (retK [.tmp 4])) (retK [.tmp 4]))) (s11_8 x1 x1n x1c x2 x5 x5n x5c x6 M) M) (P11_24 : Rec → (Option Addr) → Nat → Nat → Nat → (Option Addr) → Nat → Nat → Int → AMem → Res) (hP11_24 : P11_24 = fun (L : Rec) (x1 : Option Addr) (x1n : Nat) (x1c : Nat) (x2 : Nat) (x5 : Option Addr) (x5n : Nat) (x5c : Nat) (x6 : Int) (M : AMem) => code L (.ops o11_24) (postK zl28 (loopK L b11_8 (blockK 0 (seqK (code L (.clear zl29 c11_25) (retK [.tmp 4])) (retK [.tmp 4]))))) (s11_24 x1 x1n x1c x2 x5 x5n x5c x6 M) M) (x1 : Option Addr) (x1n : Nat) (x1c : Nat) (x2 : Nat) (x5 : Option Addr) (x5n : Nat) (x5c : Nat) (x6 : Int) (M : AMem) : P11_24 L x1 x1n x1c x2 x5 x5n x5c x6 M =
  P11_8 L x1 x1n x1c x2 x5 x5n x5c (IntKind.wrap .i64 (x6 + 1)) M := by
  subst hP11_8; subst hP11_24; kernel_rfl
theorem P11_24_eq (L : Rec) (x1 : Option Addr) (x1n : Nat) (x1c : Nat) (x2 : Nat) (x5 : Option Addr) (x5n : Nat) (x5c : Nat) (x6 : Int) (M : AMem) : P11_24 L x1 x1n x1c x2 x5 x5n x5c x6 M =
  P11_8 L x1 x1n x1c x2 x5 x5n x5c (IntKind.wrap .i64 (x6 + 1)) M := QP11_24_eq L b11_8 c11_25 P11_8 (Classical.choose_spec XP11_8) P11_24 (Classical.choose_spec XP11_24) x1 x1n x1c x2 x5 x5n x5c x6 M
theorem QP11_25_eq (L : Rec) (P11_25 : Rec → (Option Addr) → Nat → Nat → AMem → Res) (hP11_25 : P11_25 = fun (L : Rec) (x5 : Option Addr) (x5n : Nat) (x5c : Nat) (M : AMem) => code L (.seq (.ops o11_26) (.ret)) (retK [.tmp 4]) (s11_25 x5 x5n x5c M) M) (x5 : Option Addr) (x5n : Nat) (x5c : Nat) (M : AMem) : P11_25 L x5 x5n x5c M =
  some (.slice x5 x5n x5c, M) := by
  subst hP11_25; kernel_rfl
theorem P11_25_eq (L : Rec) (x5 : Option Addr) (x5n : Nat) (x5c : Nat) (M : AMem) : P11_25 L x5 x5n x5c M =
  some (.slice x5 x5n x5c, M) := QP11_25_eq L P11_25 (Classical.choose_spec XP11_25) x5 x5n x5c M
theorem QE11 (L : Rec) (b11_8 c11_25 : ACode) (P11_8 : Rec → (Option Addr) → Nat → Nat → Nat → (Option Addr) → Nat → Nat → Int → AMem → Res) (hP11_8 : P11_8 = fun (L : Rec) (x1 : Option Addr) (x1n : Nat) (x1c : Nat) (x2 : Nat) (x5 : Option Addr) (x5n : Nat) (x5c : Nat) (x6 : Int) (M : AMem) => L.loop b11_8 (blockK 0 (seqK (code L (.clear zl29 c11_25) (retK [.tmp 4])) (retK [.tmp 4]))) (s11_8 x1 x1n x1c x2 x5 x5n x5c x6 M) M) (x0_0 : Int) (x0_1 : Int) (x1 : Option Addr) (x1n : Nat) (x1c : Nat) (M : AMem) : enterF L ⟨35, [.tmp 4], .seq (.ops o11_1) (.seq (.ops o11_3) (.seq (.seq (.ops o11_6) (.block 0 (.clear zl28 (.loop b11_8)))) (.clear zl29 c11_25)))⟩ [.agg #[.int .i64 x0_0, .int .i64 x0_1], .slice x1 x1n x1c] M =
  P11_8 L x1 x1n x1c (List.length M) none 0 0 0 (M ++ [AObj.cells [.int .i64 x0_0, .int .i64 x0_1] ⟨false, 0⟩]) := by
  subst hP11_8; kernel_rfl
theorem E11 (L : Rec) (x0_0 : Int) (x0_1 : Int) (x1 : Option Addr) (x1n : Nat) (x1c : Nat) (M : AMem) : enterF L a11 [.agg #[.int .i64 x0_0, .int .i64 x0_1], .slice x1 x1n x1c] M =
  P11_8 L x1 x1n x1c (List.length M) none 0 0 0 (M ++ [AObj.cells [.int .i64 x0_0, .int .i64 x0_1] ⟨false, 0⟩]) := QE11 L b11_8 c11_25 P11_8 (Classical.choose_spec XP11_8) x0_0 x0_1 x1 x1n x1c M
end Go.Proofs.Ytmpgngilhhmlcaa
