/- What the pieces of some functions come to. -/
import Derived.Test.YtncfdkmhpnopiaaCode
set_option linter.unusedVariables false
set_option maxRecDepth 100000
namespace Go.Proofs.Ytncfdkmhpnopiaa
open Go Go.Ax
/-! #### skylightref41.sides -/
theorem E21 (L : Rec) (x0 : Int) (x1 : Int) (x2 : Int) : enterF L a21 [.int .i64 x0, .int .i64 x1, .int .i64 x2] [] =
  (if (decide (x0 ≥ 1)) = true
    then (if (decide (x0 ≤ 256)) = true
      then (if (decide (x1 ≥ 1)) = true
        then (if (decide (x1 ≤ 256)) = true
          then some (.bool (x2 == (IntKind.wrap .i64 (x0 * x1))), ([] : AMem))
          else some (.bool false, ([] : AMem)))
        else some (.bool false, ([] : AMem)))
      else some (.bool false, ([] : AMem)))
    else some (.bool false, ([] : AMem))) := by kernel_rfl
/-! #### skylightref41.Right -/
noncomputable def k6_6 (L : Rec) : KT := blockK 0 (seqK (code L (.clear zl20 c6_23) (retK [.tmp 2])) (retK [.tmp 2]))
def s6_6 (x1 : Nat) (x3 : Int) (M : AMem) : List Value := [junk, .pointer (some ⟨x1, 0, none⟩), junk, .int .i64 x3, junk, junk, junk, junk, junk, junk, junk, junk, junk, junk, junk, junk, junk, junk, junk, junk, junk, junk, junk, junk, junk, junk, junk, junk, junk, junk, junk, junk, junk, junk, junk, junk, junk, junk, junk, junk, junk, junk, junk, junk, junk, junk, junk, junk, junk, junk, junk, junk, junk, junk, junk, junk, junk, junk, junk, junk, junk]
theorem XP6_6 : ∃ P : Rec → Nat → Int → AMem → Res, P = fun (L : Rec) (x1 : Nat) (x3 : Int) (M : AMem) => L.loop b6_6 (k6_6 L) (s6_6 x1 x3 M) M := ⟨_, rfl⟩
noncomputable def P6_6 : Rec → Nat → Int → AMem → Res := Classical.choose XP6_6
noncomputable def k6_22 (L : Rec) : KT := postK zl19 (loopK L b6_6 (blockK 0 (seqK (code L (.clear zl20 c6_23) (retK [.tmp 2])) (retK [.tmp 2]))))
def s6_22 (x1 : Nat) (x3 : Int) (M : AMem) : List Value := [junk, .pointer (some ⟨x1, 0, none⟩), junk, .int .i64 x3, junk, junk, junk, junk, junk, junk, junk, junk, junk, junk, junk, junk, junk, junk, junk, junk, junk, junk, junk, junk, junk, junk, junk, junk, junk, junk, junk, junk, junk, junk, junk, junk, junk, junk, junk, junk, junk, junk, junk, junk, junk, junk, junk, junk, junk, junk, junk, junk, junk, junk, junk, junk, junk, junk, junk, junk, junk]
theorem XP6_22 : ∃ P : Rec → Nat → Int → AMem → Res, P = fun (L : Rec) (x1 : Nat) (x3 : Int) (M : AMem) => code L c6_22 (k6_22 L) (s6_22 x1 x3 M) M := ⟨_, rfl⟩
noncomputable def P6_22 : Rec → Nat → Int → AMem → Res := Classical.choose XP6_22
noncomputable def k6_23 (L : Rec) : KT := retK [.tmp 2]
def s6_23 (x1 : Nat) (M : AMem) : List Value := [junk, .pointer (some ⟨x1, 0, none⟩), junk, junk, junk, junk, junk, junk, junk, junk, junk, junk, junk, junk, junk, junk, junk, junk, junk, junk, junk, junk, junk, junk, junk, junk, junk, junk, junk, junk, junk, junk, junk, junk, junk, junk, junk, junk, junk, junk, junk, junk, junk, junk, junk, junk, junk, junk, junk, junk, junk, junk, junk, junk, junk, junk, junk, junk, junk, junk, junk]
theorem XP6_23 : ∃ P : Rec → Nat → AMem → Res, P = fun (L : Rec) (x1 : Nat) (M : AMem) => code L c6_23 (k6_23 L) (s6_23 x1 M) M := ⟨_, rfl⟩
noncomputable def P6_23 : Rec → Nat → AMem → Res := Classical.choose XP6_23
theorem QP6_6_eq (L : Rec) (b6_6 c6_22 c6_23 : ACode) (hb : ∀ K t A, L.loop b6_6 K t A = code L (.post (.seq (.seq (.ops o6_9) (.cond (.tmp 8) (.skip) (.exit 0))) (.seq (.block 1 (.seq (.draw [] 0 o6_16 []) (.cond (.tmp 52) (.seq (.ops o6_19) (.ret)) (.skip)))) (.clear zl19 c6_22))) zl19) (loopK L b6_6 K) t A) (P6_6 : Rec → Nat → Int → AMem → Res) (hP6_6 : P6_6 = fun (L : Rec) (x1 : Nat) (x3 : Int) (M : AMem) => L.loop b6_6 (blockK 0 (seqK (code L (.clear zl20 c6_23) (retK [.tmp 2])) (retK [.tmp 2]))) (s6_6 x1 x3 M) M) (P6_22 : Rec → Nat → Int → AMem → Res) (hP6_22 : P6_22 = fun (L : Rec) (x1 : Nat) (x3 : Int) (M : AMem) => code L c6_22 (postK zl19 (loopK L b6_6 (blockK 0 (seqK (code L (.clear zl20 c6_23) (retK [.tmp 2])) (retK [.tmp 2]))))) (s6_22 x1 x3 M) M) (P6_23 : Rec → Nat → AMem → Res) (hP6_23 : P6_23 = fun (L : Rec) (x1 : Nat) (M : AMem) => code L c6_23 (retK [.tmp 2]) (s6_23 x1 M) M) (x1 : Nat) (x3 : Int) (M : AMem) : P6_6 L x1 x3 M =
  (Option.bind (sliceOf? (AMem.ld M x1 2)) fun s_1 =>
    (if (decide (x3 < (Int.ofNat s_1.2.1))) = true
    then (Option.bind (sliceOf? (AMem.ld M x1 2)) fun s_2 =>
      (match s_2.1 with
      | some a_3 => (if (0 : Int) ≤ x3 ∧ x3 < (Int.ofNat s_2.2.1)
        then (Option.bind (intOf? .i64 (AMem.ld M a_3.block (a_3.off + ((Int.toNat x3) * 3)))) fun x_4 =>
          (Option.bind (sliceOf? (AMem.ld M x1 2)) fun s_5 =>
          (match s_5.1 with
          | some a_6 => (if (0 : Int) ≤ x3 ∧ x3 < (Int.ofNat s_5.2.1)
            then (Option.bind (intOf? .i64 (AMem.ld M a_6.block ((a_6.off + ((Int.toNat x3) * 3)) + 1))) fun x_7 =>
              (Option.bind (sliceOf? (AMem.ld M x1 2)) fun s_8 =>
              (match s_8.1 with
              | some a_9 => (if (0 : Int) ≤ x3 ∧ x3 < (Int.ofNat s_8.2.1)
                then (Option.bind (intOf? .i64 (AMem.ld M a_9.block ((a_9.off + ((Int.toNat x3) * 3)) + 2))) fun x_10 =>
                  (if (decide ((if x_10 < (if x_7 < x_4 then x_7 else x_4) then x_10 else (if x_7 < x_4 then x_7 else x_4)) < 0)) = true
                  then some (.bool false, M)
                  else (Option.bind (sliceOf? (AMem.ld M x1 2)) fun s_11 =>
                    (match s_11.1 with
                    | some a_12 => (if (0 : Int) ≤ x3 ∧ x3 < (Int.ofNat s_11.2.1)
                      then (Option.bind (intOf? .i64 (AMem.ld M a_12.block (a_12.off + ((Int.toNat x3) * 3)))) fun x_13 =>
                        (Option.bind (sliceOf? (AMem.ld M x1 2)) fun s_14 =>
                        (match s_14.1 with
                        | some a_15 => (if (0 : Int) ≤ x3 ∧ x3 < (Int.ofNat s_14.2.1)
                          then (Option.bind (intOf? .i64 (AMem.ld M a_15.block ((a_15.off + ((Int.toNat x3) * 3)) + 1))) fun x_16 =>
                            (Option.bind (sliceOf? (AMem.ld M x1 2)) fun s_17 =>
                            (match s_17.1 with
                            | some a_18 => (if (0 : Int) ≤ x3 ∧ x3 < (Int.ofNat s_17.2.1)
                              then (Option.bind (intOf? .i64 (AMem.ld M a_18.block ((a_18.off + ((Int.toNat x3) * 3)) + 2))) fun x_19 =>
                                (if (decide ((if x_19 > (if x_16 > x_13 then x_16 else x_13) then x_19 else (if x_16 > x_13 then x_16 else x_13)) > 255)) = true
                                then some (.bool false, M)
                                else P6_22 L x1 x3 M))
                              else none)
                            | none => none)))
                          else none)
                        | none => none)))
                      else none)
                    | none => none))))
                else none)
              | none => none)))
            else none)
          | none => none)))
        else none)
      | none => none))
    else P6_23 L x1 M)) := by
  subst hP6_6; subst hP6_22; subst hP6_23; exact (hb (blockK 0 (seqK (code L (.clear zl20 c6_23) (retK [.tmp 2])) (retK [.tmp 2]))) (s6_6 x1 x3 M) M).trans (by kernel_rfl)
theorem P6_6_eq (L : Rec) (hL : ∀ b K t A, L.loop b K t A = code L b (loopK L b K) t A) (x1 : Nat) (x3 : Int) (M : AMem) : P6_6 L x1 x3 M =
  (Option.bind (sliceOf? (AMem.ld M x1 2)) fun s_1 =>
    (if (decide (x3 < (Int.ofNat s_1.2.1))) = true
    then (Option.bind (sliceOf? (AMem.ld M x1 2)) fun s_2 =>
      (match s_2.1 with
      | some a_3 => (if (0 : Int) ≤ x3 ∧ x3 < (Int.ofNat s_2.2.1)
        then (Option.bind (intOf? .i64 (AMem.ld M a_3.block (a_3.off + ((Int.toNat x3) * 3)))) fun x_4 =>
          (Option.bind (sliceOf? (AMem.ld M x1 2)) fun s_5 =>
          (match s_5.1 with
          | some a_6 => (if (0 : Int) ≤ x3 ∧ x3 < (Int.ofNat s_5.2.1)
            then (Option.bind (intOf? .i64 (AMem.ld M a_6.block ((a_6.off + ((Int.toNat x3) * 3)) + 1))) fun x_7 =>
              (Option.bind (sliceOf? (AMem.ld M x1 2)) fun s_8 =>
              (match s_8.1 with
              | some a_9 => (if (0 : Int) ≤ x3 ∧ x3 < (Int.ofNat s_8.2.1)
                then (Option.bind (intOf? .i64 (AMem.ld M a_9.block ((a_9.off + ((Int.toNat x3) * 3)) + 2))) fun x_10 =>
                  (if (decide ((if x_10 < (if x_7 < x_4 then x_7 else x_4) then x_10 else (if x_7 < x_4 then x_7 else x_4)) < 0)) = true
                  then some (.bool false, M)
                  else (Option.bind (sliceOf? (AMem.ld M x1 2)) fun s_11 =>
                    (match s_11.1 with
                    | some a_12 => (if (0 : Int) ≤ x3 ∧ x3 < (Int.ofNat s_11.2.1)
                      then (Option.bind (intOf? .i64 (AMem.ld M a_12.block (a_12.off + ((Int.toNat x3) * 3)))) fun x_13 =>
                        (Option.bind (sliceOf? (AMem.ld M x1 2)) fun s_14 =>
                        (match s_14.1 with
                        | some a_15 => (if (0 : Int) ≤ x3 ∧ x3 < (Int.ofNat s_14.2.1)
                          then (Option.bind (intOf? .i64 (AMem.ld M a_15.block ((a_15.off + ((Int.toNat x3) * 3)) + 1))) fun x_16 =>
                            (Option.bind (sliceOf? (AMem.ld M x1 2)) fun s_17 =>
                            (match s_17.1 with
                            | some a_18 => (if (0 : Int) ≤ x3 ∧ x3 < (Int.ofNat s_17.2.1)
                              then (Option.bind (intOf? .i64 (AMem.ld M a_18.block ((a_18.off + ((Int.toNat x3) * 3)) + 2))) fun x_19 =>
                                (if (decide ((if x_19 > (if x_16 > x_13 then x_16 else x_13) then x_19 else (if x_16 > x_13 then x_16 else x_13)) > 255)) = true
                                then some (.bool false, M)
                                else P6_22 L x1 x3 M))
                              else none)
                            | none => none)))
                          else none)
                        | none => none)))
                      else none)
                    | none => none))))
                else none)
              | none => none)))
            else none)
          | none => none)))
        else none)
      | none => none))
    else P6_23 L x1 M)) := QP6_6_eq L b6_6 c6_22 c6_23 (hL b6_6) P6_6 (Classical.choose_spec XP6_6) P6_22 (Classical.choose_spec XP6_22) P6_23 (Classical.choose_spec XP6_23) x1 x3 M
theorem QP6_22_eq (L : Rec) (b6_6 c6_23 : ACode) (P6_6 : Rec → Nat → Int → AMem → Res) (hP6_6 : P6_6 = fun (L : Rec) (x1 : Nat) (x3 : Int) (M : AMem) => L.loop b6_6 (blockK 0 (seqK (code L (.clear zl20 c6_23) (retK [.tmp 2])) (retK [.tmp 2]))) (s6_6 x1 x3 M) M) (P6_22 : Rec → Nat → Int → AMem → Res) (hP6_22 : P6_22 = fun (L : Rec) (x1 : Nat) (x3 : Int) (M : AMem) => code L (.ops o6_22) (postK zl19 (loopK L b6_6 (blockK 0 (seqK (code L (.clear zl20 c6_23) (retK [.tmp 2])) (retK [.tmp 2]))))) (s6_22 x1 x3 M) M) (x1 : Nat) (x3 : Int) (M : AMem) : P6_22 L x1 x3 M =
  P6_6 L x1 (IntKind.wrap .i64 (x3 + 1)) M := by
  subst hP6_6; subst hP6_22; kernel_rfl
theorem P6_22_eq (L : Rec) (x1 : Nat) (x3 : Int) (M : AMem) : P6_22 L x1 x3 M =
  P6_6 L x1 (IntKind.wrap .i64 (x3 + 1)) M := QP6_22_eq L b6_6 c6_23 P6_6 (Classical.choose_spec XP6_6) P6_22 (Classical.choose_spec XP6_22) x1 x3 M
theorem QP6_23_eq (L : Rec) (P6_23 : Rec → Nat → AMem → Res) (hP6_23 : P6_23 = fun (L : Rec) (x1 : Nat) (M : AMem) => code L (.seq (.ops o6_24) (.ret)) (retK [.tmp 2]) (s6_23 x1 M) M) (x1 : Nat) (M : AMem) : P6_23 L x1 M =
  (Option.bind (intOf? .i64 (AMem.ld M x1 0)) fun x_1 =>
    (Option.bind (intOf? .i64 (AMem.ld M x1 1)) fun x_2 =>
    (Option.bind (sliceOf? (AMem.ld M x1 2)) fun s_3 =>
    (Option.bind (L.call 21 [.int .i64 x_1, .int .i64 x_2, .int .i64 (Int.ofNat s_3.2.1)] []) fun r_4 =>
    (Option.bind (boolOf? (some r_4.1)) fun q_5 =>
    some (.bool q_5, M)))))) := by
  subst hP6_23; kernel_rfl
theorem P6_23_eq (L : Rec) (x1 : Nat) (M : AMem) : P6_23 L x1 M =
  (Option.bind (intOf? .i64 (AMem.ld M x1 0)) fun x_1 =>
    (Option.bind (intOf? .i64 (AMem.ld M x1 1)) fun x_2 =>
    (Option.bind (sliceOf? (AMem.ld M x1 2)) fun s_3 =>
    (Option.bind (L.call 21 [.int .i64 x_1, .int .i64 x_2, .int .i64 (Int.ofNat s_3.2.1)] []) fun r_4 =>
    (Option.bind (boolOf? (some r_4.1)) fun q_5 =>
    some (.bool q_5, M)))))) := QP6_23_eq L P6_23 (Classical.choose_spec XP6_23) x1 M
theorem QE6 (L : Rec) (b6_6 c6_23 : ACode) (P6_6 : Rec → Nat → Int → AMem → Res) (hP6_6 : P6_6 = fun (L : Rec) (x1 : Nat) (x3 : Int) (M : AMem) => L.loop b6_6 (blockK 0 (seqK (code L (.clear zl20 c6_23) (retK [.tmp 2])) (retK [.tmp 2]))) (s6_6 x1 x3 M) M) (x0_0 : Int) (x0_1 : Int) (x0_2 : Option Addr) (x0_2n : Nat) (x0_2c : Nat) (M : AMem) : enterF L ⟨61, [.tmp 2], .seq (.ops o6_1) (.seq (.seq (.ops o6_4) (.block 0 (.clear zl19 (.loop b6_6)))) (.clear zl20 c6_23))⟩ [.agg #[.int .i64 x0_0, .int .i64 x0_1, .slice x0_2 x0_2n x0_2c]] M =
  P6_6 L (List.length M) 0 (M ++ [AObj.cells [.int .i64 x0_0, .int .i64 x0_1, .slice x0_2 x0_2n x0_2c] ⟨false, 0⟩]) := by
  subst hP6_6; kernel_rfl
theorem E6 (L : Rec) (x0_0 : Int) (x0_1 : Int) (x0_2 : Option Addr) (x0_2n : Nat) (x0_2c : Nat) (M : AMem) : enterF L a6 [.agg #[.int .i64 x0_0, .int .i64 x0_1, .slice x0_2 x0_2n x0_2c]] M =
  P6_6 L (List.length M) 0 (M ++ [AObj.cells [.int .i64 x0_0, .int .i64 x0_1, .slice x0_2 x0_2n x0_2c] ⟨false, 0⟩]) := QE6 L b6_6 c6_23 P6_6 (Classical.choose_spec XP6_6) x0_0 x0_1 x0_2 x0_2n x0_2c M
/-! #### skylightref41.Same -/
noncomputable def k12_14 (L : Rec) : KT := blockK 0 (seqK (code L (.clear zl27 c12_31) (retK [.tmp 4])) (retK [.tmp 4]))
def s12_14 (x2 : Nat) (x3 : Nat) (x5 : Int) (M : AMem) : List Value := [junk, junk, .pointer (some ⟨x2, 0, none⟩), .pointer (some ⟨x3, 0, none⟩), junk, .int .i64 x5, junk, junk, junk, junk, junk, junk, junk, junk, junk, junk, junk, junk, junk, junk, junk, junk, junk, junk, junk, junk, junk, junk, junk, junk, junk, junk, junk, junk, junk, junk, junk, junk, junk, junk, junk, junk, junk, junk, junk]
theorem XP12_14 : ∃ P : Rec → Nat → Nat → Int → AMem → Res, P = fun (L : Rec) (x2 : Nat) (x3 : Nat) (x5 : Int) (M : AMem) => L.loop b12_14 (k12_14 L) (s12_14 x2 x3 x5 M) M := ⟨_, rfl⟩
noncomputable def P12_14 : Rec → Nat → Nat → Int → AMem → Res := Classical.choose XP12_14
noncomputable def k12_30 (L : Rec) : KT := postK zl26 (loopK L b12_14 (blockK 0 (seqK (code L (.clear zl27 c12_31) (retK [.tmp 4])) (retK [.tmp 4]))))
def s12_30 (x2 : Nat) (x3 : Nat) (x5 : Int) (M : AMem) : List Value := [junk, junk, .pointer (some ⟨x2, 0, none⟩), .pointer (some ⟨x3, 0, none⟩), junk, .int .i64 x5, junk, junk, junk, junk, junk, junk, junk, junk, junk, junk, junk, junk, junk, junk, junk, junk, junk, junk, junk, junk, junk, junk, junk, junk, junk, junk, junk, junk, junk, junk, junk, junk, junk, junk, junk, junk, junk, junk, junk]
theorem XP12_30 : ∃ P : Rec → Nat → Nat → Int → AMem → Res, P = fun (L : Rec) (x2 : Nat) (x3 : Nat) (x5 : Int) (M : AMem) => code L c12_30 (k12_30 L) (s12_30 x2 x3 x5 M) M := ⟨_, rfl⟩
noncomputable def P12_30 : Rec → Nat → Nat → Int → AMem → Res := Classical.choose XP12_30
noncomputable def k12_31 (L : Rec) : KT := retK [.tmp 4]
def s12_31 (M : AMem) : List Value := [junk, junk, junk, junk, junk, junk, junk, junk, junk, junk, junk, junk, junk, junk, junk, junk, junk, junk, junk, junk, junk, junk, junk, junk, junk, junk, junk, junk, junk, junk, junk, junk, junk, junk, junk, junk, junk, junk, junk, junk, junk, junk, junk, junk, junk]
theorem XP12_31 : ∃ P : Rec → AMem → Res, P = fun (L : Rec) (M : AMem) => code L c12_31 (k12_31 L) (s12_31 M) M := ⟨_, rfl⟩
noncomputable def P12_31 : Rec → AMem → Res := Classical.choose XP12_31
theorem QP12_14_eq (L : Rec) (b12_14 c12_30 c12_31 : ACode) (hb : ∀ K t A, L.loop b12_14 K t A = code L (.post (.seq (.seq (.ops o12_17) (.cond (.tmp 31) (.skip) (.exit 0))) (.seq (.block 1 (.seq (.draw [] 0 o12_24 []) (.cond (.tmp 44) (.seq (.ops o12_27) (.ret)) (.skip)))) (.clear zl26 c12_30))) zl26) (loopK L b12_14 K) t A) (P12_14 : Rec → Nat → Nat → Int → AMem → Res) (hP12_14 : P12_14 = fun (L : Rec) (x2 : Nat) (x3 : Nat) (x5 : Int) (M : AMem) => L.loop b12_14 (blockK 0 (seqK (code L (.clear zl27 c12_31) (retK [.tmp 4])) (retK [.tmp 4]))) (s12_14 x2 x3 x5 M) M) (P12_30 : Rec → Nat → Nat → Int → AMem → Res) (hP12_30 : P12_30 = fun (L : Rec) (x2 : Nat) (x3 : Nat) (x5 : Int) (M : AMem) => code L c12_30 (postK zl26 (loopK L b12_14 (blockK 0 (seqK (code L (.clear zl27 c12_31) (retK [.tmp 4])) (retK [.tmp 4]))))) (s12_30 x2 x3 x5 M) M) (P12_31 : Rec → AMem → Res) (hP12_31 : P12_31 = fun (L : Rec) (M : AMem) => code L c12_31 (retK [.tmp 4]) (s12_31 M) M) (x2 : Nat) (x3 : Nat) (x5 : Int) (M : AMem) : P12_14 L x2 x3 x5 M =
  (Option.bind (sliceOf? (AMem.ld M x2 2)) fun s_1 =>
    (if (decide (x5 < (Int.ofNat s_1.2.1))) = true
    then (Option.bind (sliceOf? (AMem.ld M x2 2)) fun s_2 =>
      (match s_2.1 with
      | some a_3 => (if (0 : Int) ≤ x5 ∧ x5 < (Int.ofNat s_2.2.1)
        then (Option.bind (intOf? .i64 (AMem.ld M a_3.block (a_3.off + ((Int.toNat x5) * 3)))) fun x_4 =>
          (Option.bind (intOf? .i64 (AMem.ld M a_3.block ((a_3.off + ((Int.toNat x5) * 3)) + 1))) fun x_5 =>
          (Option.bind (intOf? .i64 (AMem.ld M a_3.block ((a_3.off + ((Int.toNat x5) * 3)) + 2))) fun x_6 =>
          (Option.bind (sliceOf? (AMem.ld M x3 2)) fun s_7 =>
          (match s_7.1 with
          | some a_8 => (if (0 : Int) ≤ x5 ∧ x5 < (Int.ofNat s_7.2.1)
            then (Option.bind (intOf? .i64 (AMem.ld M a_8.block (a_8.off + ((Int.toNat x5) * 3)))) fun x_9 =>
              (Option.bind (intOf? .i64 (AMem.ld M a_8.block ((a_8.off + ((Int.toNat x5) * 3)) + 1))) fun x_10 =>
              (Option.bind (intOf? .i64 (AMem.ld M a_8.block ((a_8.off + ((Int.toNat x5) * 3)) + 2))) fun x_11 =>
              (if (!((x_4 == x_9) && ((x_5 == x_10) && (x_6 == x_11)))) = true
              then some (.bool false, M)
              else P12_30 L x2 x3 x5 M))))
            else none)
          | none => none)))))
        else none)
      | none => none))
    else P12_31 L M)) := by
  subst hP12_14; subst hP12_30; subst hP12_31; exact (hb (blockK 0 (seqK (code L (.clear zl27 c12_31) (retK [.tmp 4])) (retK [.tmp 4]))) (s12_14 x2 x3 x5 M) M).trans (by kernel_rfl)
theorem P12_14_eq (L : Rec) (hL : ∀ b K t A, L.loop b K t A = code L b (loopK L b K) t A) (x2 : Nat) (x3 : Nat) (x5 : Int) (M : AMem) : P12_14 L x2 x3 x5 M =
  (Option.bind (sliceOf? (AMem.ld M x2 2)) fun s_1 =>
    (if (decide (x5 < (Int.ofNat s_1.2.1))) = true
    then (Option.bind (sliceOf? (AMem.ld M x2 2)) fun s_2 =>
      (match s_2.1 with
      | some a_3 => (if (0 : Int) ≤ x5 ∧ x5 < (Int.ofNat s_2.2.1)
        then (Option.bind (intOf? .i64 (AMem.ld M a_3.block (a_3.off + ((Int.toNat x5) * 3)))) fun x_4 =>
          (Option.bind (intOf? .i64 (AMem.ld M a_3.block ((a_3.off + ((Int.toNat x5) * 3)) + 1))) fun x_5 =>
          (Option.bind (intOf? .i64 (AMem.ld M a_3.block ((a_3.off + ((Int.toNat x5) * 3)) + 2))) fun x_6 =>
          (Option.bind (sliceOf? (AMem.ld M x3 2)) fun s_7 =>
          (match s_7.1 with
          | some a_8 => (if (0 : Int) ≤ x5 ∧ x5 < (Int.ofNat s_7.2.1)
            then (Option.bind (intOf? .i64 (AMem.ld M a_8.block (a_8.off + ((Int.toNat x5) * 3)))) fun x_9 =>
              (Option.bind (intOf? .i64 (AMem.ld M a_8.block ((a_8.off + ((Int.toNat x5) * 3)) + 1))) fun x_10 =>
              (Option.bind (intOf? .i64 (AMem.ld M a_8.block ((a_8.off + ((Int.toNat x5) * 3)) + 2))) fun x_11 =>
              (if (!((x_4 == x_9) && ((x_5 == x_10) && (x_6 == x_11)))) = true
              then some (.bool false, M)
              else P12_30 L x2 x3 x5 M))))
            else none)
          | none => none)))))
        else none)
      | none => none))
    else P12_31 L M)) := QP12_14_eq L b12_14 c12_30 c12_31 (hL b12_14) P12_14 (Classical.choose_spec XP12_14) P12_30 (Classical.choose_spec XP12_30) P12_31 (Classical.choose_spec XP12_31) x2 x3 x5 M
theorem QP12_30_eq (L : Rec) (b12_14 c12_31 : ACode) (P12_14 : Rec → Nat → Nat → Int → AMem → Res) (hP12_14 : P12_14 = fun (L : Rec) (x2 : Nat) (x3 : Nat) (x5 : Int) (M : AMem) => L.loop b12_14 (blockK 0 (seqK (code L (.clear zl27 c12_31) (retK [.tmp 4])) (retK [.tmp 4]))) (s12_14 x2 x3 x5 M) M) (P12_30 : Rec → Nat → Nat → Int → AMem → Res) (hP12_30 : P12_30 = fun (L : Rec) (x2 : Nat) (x3 : Nat) (x5 : Int) (M : AMem) => code L (.ops o12_30) (postK zl26 (loopK L b12_14 (blockK 0 (seqK (code L (.clear zl27 c12_31) (retK [.tmp 4])) (retK [.tmp 4]))))) (s12_30 x2 x3 x5 M) M) (x2 : Nat) (x3 : Nat) (x5 : Int) (M : AMem) : P12_30 L x2 x3 x5 M =
  P12_14 L x2 x3 (IntKind.wrap .i64 (x5 + 1)) M := by
  subst hP12_14; subst hP12_30; kernel_rfl
theorem P12_30_eq (L : Rec) (x2 : Nat) (x3 : Nat) (x5 : Int) (M : AMem) : P12_30 L x2 x3 x5 M =
  P12_14 L x2 x3 (IntKind.wrap .i64 (x5 + 1)) M := QP12_30_eq L b12_14 c12_31 P12_14 (Classical.choose_spec XP12_14) P12_30 (Classical.choose_spec XP12_30) x2 x3 x5 M
theorem QP12_31_eq (L : Rec) (P12_31 : Rec → AMem → Res) (hP12_31 : P12_31 = fun (L : Rec) (M : AMem) => code L (.seq (.ops o12_32) (.ret)) (retK [.tmp 4]) (s12_31 M) M) (M : AMem) : P12_31 L M =
  some (.bool true, M) := by
  subst hP12_31; kernel_rfl
theorem P12_31_eq (L : Rec) (M : AMem) : P12_31 L M =
  some (.bool true, M) := QP12_31_eq L P12_31 (Classical.choose_spec XP12_31) M
theorem QE12 (L : Rec) (b12_14 c12_31 : ACode) (P12_14 : Rec → Nat → Nat → Int → AMem → Res) (hP12_14 : P12_14 = fun (L : Rec) (x2 : Nat) (x3 : Nat) (x5 : Int) (M : AMem) => L.loop b12_14 (blockK 0 (seqK (code L (.clear zl27 c12_31) (retK [.tmp 4])) (retK [.tmp 4]))) (s12_14 x2 x3 x5 M) M) (x0_0 : Int) (x0_1 : Int) (x0_2 : Option Addr) (x0_2n : Nat) (x0_2c : Nat) (x1_0 : Int) (x1_1 : Int) (x1_2 : Option Addr) (x1_2n : Nat) (x1_2c : Nat) (M : AMem) : enterF L ⟨45, [.tmp 4], .seq (.ops o12_1) (.seq (.seq (.ops o12_4) (.cond (.tmp 26) (.seq (.ops o12_7) (.ret)) (.skip))) (.seq (.seq (.ops o12_12) (.block 0 (.clear zl26 (.loop b12_14)))) (.clear zl27 c12_31)))⟩ [.agg #[.int .i64 x0_0, .int .i64 x0_1, .slice x0_2 x0_2n x0_2c], .agg #[.int .i64 x1_0, .int .i64 x1_1, .slice x1_2 x1_2n x1_2c]] M =
  (Option.bind (intOf? .i64 (AMem.ld ((M ++ [AObj.cells [.int .i64 x0_0, .int .i64 x0_1, .slice x0_2 x0_2n x0_2c] ⟨false, 0⟩]) ++ [AObj.cells [.int .i64 x1_0, .int .i64 x1_1, .slice x1_2 x1_2n x1_2c] ⟨false, 0⟩]) (List.length M) 0)) fun x_1 =>
    (Option.bind (intOf? .i64 (AMem.ld ((M ++ [AObj.cells [.int .i64 x0_0, .int .i64 x0_1, .slice x0_2 x0_2n x0_2c] ⟨false, 0⟩]) ++ [AObj.cells [.int .i64 x1_0, .int .i64 x1_1, .slice x1_2 x1_2n x1_2c] ⟨false, 0⟩]) (List.length (M ++ [AObj.cells [.int .i64 x0_0, .int .i64 x0_1, .slice x0_2 x0_2n x0_2c] ⟨false, 0⟩])) 0)) fun x_2 =>
    (if (x_1 != x_2) = true
    then some (.bool false, ((M ++ [AObj.cells [.int .i64 x0_0, .int .i64 x0_1, .slice x0_2 x0_2n x0_2c] ⟨false, 0⟩]) ++ [AObj.cells [.int .i64 x1_0, .int .i64 x1_1, .slice x1_2 x1_2n x1_2c] ⟨false, 0⟩]))
    else (Option.bind (intOf? .i64 (AMem.ld ((M ++ [AObj.cells [.int .i64 x0_0, .int .i64 x0_1, .slice x0_2 x0_2n x0_2c] ⟨false, 0⟩]) ++ [AObj.cells [.int .i64 x1_0, .int .i64 x1_1, .slice x1_2 x1_2n x1_2c] ⟨false, 0⟩]) (List.length M) 1)) fun x_3 =>
      (Option.bind (intOf? .i64 (AMem.ld ((M ++ [AObj.cells [.int .i64 x0_0, .int .i64 x0_1, .slice x0_2 x0_2n x0_2c] ⟨false, 0⟩]) ++ [AObj.cells [.int .i64 x1_0, .int .i64 x1_1, .slice x1_2 x1_2n x1_2c] ⟨false, 0⟩]) (List.length (M ++ [AObj.cells [.int .i64 x0_0, .int .i64 x0_1, .slice x0_2 x0_2n x0_2c] ⟨false, 0⟩])) 1)) fun x_4 =>
      (if (x_3 != x_4) = true
      then some (.bool false, ((M ++ [AObj.cells [.int .i64 x0_0, .int .i64 x0_1, .slice x0_2 x0_2n x0_2c] ⟨false, 0⟩]) ++ [AObj.cells [.int .i64 x1_0, .int .i64 x1_1, .slice x1_2 x1_2n x1_2c] ⟨false, 0⟩]))
      else (Option.bind (sliceOf? (AMem.ld ((M ++ [AObj.cells [.int .i64 x0_0, .int .i64 x0_1, .slice x0_2 x0_2n x0_2c] ⟨false, 0⟩]) ++ [AObj.cells [.int .i64 x1_0, .int .i64 x1_1, .slice x1_2 x1_2n x1_2c] ⟨false, 0⟩]) (List.length M) 2)) fun s_5 =>
        (Option.bind (sliceOf? (AMem.ld ((M ++ [AObj.cells [.int .i64 x0_0, .int .i64 x0_1, .slice x0_2 x0_2n x0_2c] ⟨false, 0⟩]) ++ [AObj.cells [.int .i64 x1_0, .int .i64 x1_1, .slice x1_2 x1_2n x1_2c] ⟨false, 0⟩]) (List.length (M ++ [AObj.cells [.int .i64 x0_0, .int .i64 x0_1, .slice x0_2 x0_2n x0_2c] ⟨false, 0⟩])) 2)) fun s_6 =>
        (if ((Int.ofNat s_5.2.1) != (Int.ofNat s_6.2.1)) = true
        then some (.bool false, ((M ++ [AObj.cells [.int .i64 x0_0, .int .i64 x0_1, .slice x0_2 x0_2n x0_2c] ⟨false, 0⟩]) ++ [AObj.cells [.int .i64 x1_0, .int .i64 x1_1, .slice x1_2 x1_2n x1_2c] ⟨false, 0⟩]))
        else P12_14 L (List.length M) (List.length (M ++ [AObj.cells [.int .i64 x0_0, .int .i64 x0_1, .slice x0_2 x0_2n x0_2c] ⟨false, 0⟩])) 0 ((M ++ [AObj.cells [.int .i64 x0_0, .int .i64 x0_1, .slice x0_2 x0_2n x0_2c] ⟨false, 0⟩]) ++ [AObj.cells [.int .i64 x1_0, .int .i64 x1_1, .slice x1_2 x1_2n x1_2c] ⟨false, 0⟩])))))))))) := by
  subst hP12_14; kernel_rfl
theorem E12 (L : Rec) (x0_0 : Int) (x0_1 : Int) (x0_2 : Option Addr) (x0_2n : Nat) (x0_2c : Nat) (x1_0 : Int) (x1_1 : Int) (x1_2 : Option Addr) (x1_2n : Nat) (x1_2c : Nat) (M : AMem) : enterF L a12 [.agg #[.int .i64 x0_0, .int .i64 x0_1, .slice x0_2 x0_2n x0_2c], .agg #[.int .i64 x1_0, .int .i64 x1_1, .slice x1_2 x1_2n x1_2c]] M =
  (Option.bind (intOf? .i64 (AMem.ld ((M ++ [AObj.cells [.int .i64 x0_0, .int .i64 x0_1, .slice x0_2 x0_2n x0_2c] ⟨false, 0⟩]) ++ [AObj.cells [.int .i64 x1_0, .int .i64 x1_1, .slice x1_2 x1_2n x1_2c] ⟨false, 0⟩]) (List.length M) 0)) fun x_1 =>
    (Option.bind (intOf? .i64 (AMem.ld ((M ++ [AObj.cells [.int .i64 x0_0, .int .i64 x0_1, .slice x0_2 x0_2n x0_2c] ⟨false, 0⟩]) ++ [AObj.cells [.int .i64 x1_0, .int .i64 x1_1, .slice x1_2 x1_2n x1_2c] ⟨false, 0⟩]) (List.length (M ++ [AObj.cells [.int .i64 x0_0, .int .i64 x0_1, .slice x0_2 x0_2n x0_2c] ⟨false, 0⟩])) 0)) fun x_2 =>
    (if (x_1 != x_2) = true
    then some (.bool false, ((M ++ [AObj.cells [.int .i64 x0_0, .int .i64 x0_1, .slice x0_2 x0_2n x0_2c] ⟨false, 0⟩]) ++ [AObj.cells [.int .i64 x1_0, .int .i64 x1_1, .slice x1_2 x1_2n x1_2c] ⟨false, 0⟩]))
    else (Option.bind (intOf? .i64 (AMem.ld ((M ++ [AObj.cells [.int .i64 x0_0, .int .i64 x0_1, .slice x0_2 x0_2n x0_2c] ⟨false, 0⟩]) ++ [AObj.cells [.int .i64 x1_0, .int .i64 x1_1, .slice x1_2 x1_2n x1_2c] ⟨false, 0⟩]) (List.length M) 1)) fun x_3 =>
      (Option.bind (intOf? .i64 (AMem.ld ((M ++ [AObj.cells [.int .i64 x0_0, .int .i64 x0_1, .slice x0_2 x0_2n x0_2c] ⟨false, 0⟩]) ++ [AObj.cells [.int .i64 x1_0, .int .i64 x1_1, .slice x1_2 x1_2n x1_2c] ⟨false, 0⟩]) (List.length (M ++ [AObj.cells [.int .i64 x0_0, .int .i64 x0_1, .slice x0_2 x0_2n x0_2c] ⟨false, 0⟩])) 1)) fun x_4 =>
      (if (x_3 != x_4) = true
      then some (.bool false, ((M ++ [AObj.cells [.int .i64 x0_0, .int .i64 x0_1, .slice x0_2 x0_2n x0_2c] ⟨false, 0⟩]) ++ [AObj.cells [.int .i64 x1_0, .int .i64 x1_1, .slice x1_2 x1_2n x1_2c] ⟨false, 0⟩]))
      else (Option.bind (sliceOf? (AMem.ld ((M ++ [AObj.cells [.int .i64 x0_0, .int .i64 x0_1, .slice x0_2 x0_2n x0_2c] ⟨false, 0⟩]) ++ [AObj.cells [.int .i64 x1_0, .int .i64 x1_1, .slice x1_2 x1_2n x1_2c] ⟨false, 0⟩]) (List.length M) 2)) fun s_5 =>
        (Option.bind (sliceOf? (AMem.ld ((M ++ [AObj.cells [.int .i64 x0_0, .int .i64 x0_1, .slice x0_2 x0_2n x0_2c] ⟨false, 0⟩]) ++ [AObj.cells [.int .i64 x1_0, .int .i64 x1_1, .slice x1_2 x1_2n x1_2c] ⟨false, 0⟩]) (List.length (M ++ [AObj.cells [.int .i64 x0_0, .int .i64 x0_1, .slice x0_2 x0_2n x0_2c] ⟨false, 0⟩])) 2)) fun s_6 =>
        (if ((Int.ofNat s_5.2.1) != (Int.ofNat s_6.2.1)) = true
        then some (.bool false, ((M ++ [AObj.cells [.int .i64 x0_0, .int .i64 x0_1, .slice x0_2 x0_2n x0_2c] ⟨false, 0⟩]) ++ [AObj.cells [.int .i64 x1_0, .int .i64 x1_1, .slice x1_2 x1_2n x1_2c] ⟨false, 0⟩]))
        else P12_14 L (List.length M) (List.length (M ++ [AObj.cells [.int .i64 x0_0, .int .i64 x0_1, .slice x0_2 x0_2n x0_2c] ⟨false, 0⟩])) 0 ((M ++ [AObj.cells [.int .i64 x0_0, .int .i64 x0_1, .slice x0_2 x0_2n x0_2c] ⟨false, 0⟩]) ++ [AObj.cells [.int .i64 x1_0, .int .i64 x1_1, .slice x1_2 x1_2n x1_2c] ⟨false, 0⟩])))))))))) := QE12 L b12_14 c12_31 P12_14 (Classical.choose_spec XP12_14) x0_0 x0_1 x0_2 x0_2n x0_2c x1_0 x1_1 x1_2 x1_2n x1_2c M
/-! #### picture.sides -/
theorem E32 (L : Rec) (x0 : Int) (x1 : Int) (x2 : Int) : enterF L a32 [.int .i64 x0, .int .i64 x1, .int .i64 x2] [] =
  (if (decide (1 ≤ x0)) = true
    then (if (decide (x0 ≤ 256)) = true
      then (if (decide (1 ≤ x1)) = true
        then (if (decide (x1 ≤ 256)) = true
          then some (.bool (x2 == (IntKind.wrap .i64 (x0 * x1))), ([] : AMem))
          else some (.bool false, ([] : AMem)))
        else some (.bool false, ([] : AMem)))
      else some (.bool false, ([] : AMem)))
    else some (.bool false, ([] : AMem))) := by kernel_rfl
/-! #### picture.bright -/
theorem E31 (L : Rec) (x0 : Int) : enterF L a31 [.int .i64 x0] [] =
  (if (decide (0 ≤ x0)) = true
    then some (.bool (decide (x0 ≤ 255)), ([] : AMem))
    else some (.bool false, ([] : AMem))) := by kernel_rfl
/-! #### picture.Right -/
noncomputable def k22_6 (L : Rec) : KT := blockK 0 (seqK (code L (.clear zl40 c22_25) (retK [.tmp 2])) (retK [.tmp 2]))
def s22_6 (x1 : Nat) (x6 : Option Addr) (x6n : Nat) (x6c : Nat) (x7 : Int) (x8 : Int) (M : AMem) : List Value := [junk, .pointer (some ⟨x1, 0, none⟩), junk, junk, junk, junk, .slice x6 x6n x6c, .int .i64 x7, .int .i64 x8, junk, junk, junk, junk, junk, junk, junk, junk, junk, junk, junk, junk, junk, junk, junk, junk, junk, junk, junk, junk, junk, junk, junk, junk, junk, junk, junk, junk]
theorem XP22_6 : ∃ P : Rec → Nat → (Option Addr) → Nat → Nat → Int → Int → AMem → Res, P = fun (L : Rec) (x1 : Nat) (x6 : Option Addr) (x6n : Nat) (x6c : Nat) (x7 : Int) (x8 : Int) (M : AMem) => L.loop b22_6 (k22_6 L) (s22_6 x1 x6 x6n x6c x7 x8 M) M := ⟨_, rfl⟩
noncomputable def P22_6 : Rec → Nat → (Option Addr) → Nat → Nat → Int → Int → AMem → Res := Classical.choose XP22_6
noncomputable def k22_24 (L : Rec) : KT := postK zl39 (loopK L b22_6 (blockK 0 (seqK (code L (.clear zl40 c22_25) (retK [.tmp 2])) (retK [.tmp 2]))))
def s22_24 (x1 : Nat) (x6 : Option Addr) (x6n : Nat) (x6c : Nat) (x7 : Int) (x8 : Int) (M : AMem) : List Value := [junk, .pointer (some ⟨x1, 0, none⟩), junk, junk, junk, junk, .slice x6 x6n x6c, .int .i64 x7, .int .i64 x8, junk, junk, junk, junk, junk, junk, junk, junk, junk, junk, junk, junk, junk, junk, junk, junk, junk, junk, junk, junk, junk, junk, junk, junk, junk, junk, junk, junk]
theorem XP22_24 : ∃ P : Rec → Nat → (Option Addr) → Nat → Nat → Int → Int → AMem → Res, P = fun (L : Rec) (x1 : Nat) (x6 : Option Addr) (x6n : Nat) (x6c : Nat) (x7 : Int) (x8 : Int) (M : AMem) => code L c22_24 (k22_24 L) (s22_24 x1 x6 x6n x6c x7 x8 M) M := ⟨_, rfl⟩
noncomputable def P22_24 : Rec → Nat → (Option Addr) → Nat → Nat → Int → Int → AMem → Res := Classical.choose XP22_24
noncomputable def k22_25 (L : Rec) : KT := retK [.tmp 2]
def s22_25 (x1 : Nat) (M : AMem) : List Value := [junk, .pointer (some ⟨x1, 0, none⟩), junk, junk, junk, junk, junk, junk, junk, junk, junk, junk, junk, junk, junk, junk, junk, junk, junk, junk, junk, junk, junk, junk, junk, junk, junk, junk, junk, junk, junk, junk, junk, junk, junk, junk, junk]
theorem XP22_25 : ∃ P : Rec → Nat → AMem → Res, P = fun (L : Rec) (x1 : Nat) (M : AMem) => code L c22_25 (k22_25 L) (s22_25 x1 M) M := ⟨_, rfl⟩
noncomputable def P22_25 : Rec → Nat → AMem → Res := Classical.choose XP22_25
theorem QP22_6_eq (L : Rec) (b22_6 c22_24 c22_25 : ACode) (hb : ∀ K t A, L.loop b22_6 K t A = code L (.post (.seq (.ops o22_8) (.seq (.cond (.tmp 9) (.skip) (.exit 0)) (.seq (.block 1 (.seq (.ops o22_16) (.seq (.ops o22_18) (.cond (.tmp 27) (.seq (.ops o22_21) (.ret)) (.skip))))) (.clear zl39 c22_24)))) zl39) (loopK L b22_6 K) t A) (P22_6 : Rec → Nat → (Option Addr) → Nat → Nat → Int → Int → AMem → Res) (hP22_6 : P22_6 = fun (L : Rec) (x1 : Nat) (x6 : Option Addr) (x6n : Nat) (x6c : Nat) (x7 : Int) (x8 : Int) (M : AMem) => L.loop b22_6 (blockK 0 (seqK (code L (.clear zl40 c22_25) (retK [.tmp 2])) (retK [.tmp 2]))) (s22_6 x1 x6 x6n x6c x7 x8 M) M) (P22_24 : Rec → Nat → (Option Addr) → Nat → Nat → Int → Int → AMem → Res) (hP22_24 : P22_24 = fun (L : Rec) (x1 : Nat) (x6 : Option Addr) (x6n : Nat) (x6c : Nat) (x7 : Int) (x8 : Int) (M : AMem) => code L c22_24 (postK zl39 (loopK L b22_6 (blockK 0 (seqK (code L (.clear zl40 c22_25) (retK [.tmp 2])) (retK [.tmp 2]))))) (s22_24 x1 x6 x6n x6c x7 x8 M) M) (P22_25 : Rec → Nat → AMem → Res) (hP22_25 : P22_25 = fun (L : Rec) (x1 : Nat) (M : AMem) => code L c22_25 (retK [.tmp 2]) (s22_25 x1 M) M) (x1 : Nat) (x6 : Option Addr) (x6n : Nat) (x6c : Nat) (x7 : Int) (x8 : Int) (M : AMem) : P22_6 L x1 x6 x6n x6c x7 x8 M =
  (if (decide (x8 < x7)) = true
    then (match x6 with
      | some a_1 => (if (0 : Int) ≤ x8 ∧ x8 < (Int.ofNat x6n)
        then (Option.bind (intOf? .i64 (AMem.ld M a_1.block (a_1.off + ((Int.toNat x8) * 3)))) fun x_2 =>
          (Option.bind (intOf? .i64 (AMem.ld M a_1.block ((a_1.off + ((Int.toNat x8) * 3)) + 1))) fun x_3 =>
          (Option.bind (intOf? .i64 (AMem.ld M a_1.block ((a_1.off + ((Int.toNat x8) * 3)) + 2))) fun x_4 =>
          (Option.bind (AMem.wr (M ++ [AObj.cells [.int .i64 0, .int .i64 0, .int .i64 0] ⟨false, 0⟩]) (List.length M) 0 [.int .i64 x_2, .int .i64 x_3, .int .i64 x_4]) fun M_5 =>
          (Option.bind (intOf? .i64 (AMem.ld M_5 (List.length M) 0)) fun x_6 =>
          (Option.bind (L.call 31 [.int .i64 x_6] []) fun r_7 =>
          (Option.bind (boolOf? (some r_7.1)) fun q_8 =>
          (if (!q_8) = true
          then some (.bool false, M_5)
          else (Option.bind (intOf? .i64 (AMem.ld M_5 (List.length M) 1)) fun x_9 =>
            (Option.bind (L.call 31 [.int .i64 x_9] []) fun r_10 =>
            (Option.bind (boolOf? (some r_10.1)) fun q_11 =>
            (if (!q_11) = true
            then some (.bool false, M_5)
            else (Option.bind (intOf? .i64 (AMem.ld M_5 (List.length M) 2)) fun x_12 =>
              (Option.bind (L.call 31 [.int .i64 x_12] []) fun r_13 =>
              (Option.bind (boolOf? (some r_13.1)) fun q_14 =>
              (if (!q_14) = true
              then some (.bool false, M_5)
              else P22_24 L x1 x6 x6n x6c x7 x8 M_5))))))))))))))))
        else none)
      | none => none)
    else P22_25 L x1 M) := by
  subst hP22_6; subst hP22_24; subst hP22_25; exact (hb (blockK 0 (seqK (code L (.clear zl40 c22_25) (retK [.tmp 2])) (retK [.tmp 2]))) (s22_6 x1 x6 x6n x6c x7 x8 M) M).trans (by kernel_rfl)
theorem P22_6_eq (L : Rec) (hL : ∀ b K t A, L.loop b K t A = code L b (loopK L b K) t A) (x1 : Nat) (x6 : Option Addr) (x6n : Nat) (x6c : Nat) (x7 : Int) (x8 : Int) (M : AMem) : P22_6 L x1 x6 x6n x6c x7 x8 M =
  (if (decide (x8 < x7)) = true
    then (match x6 with
      | some a_1 => (if (0 : Int) ≤ x8 ∧ x8 < (Int.ofNat x6n)
        then (Option.bind (intOf? .i64 (AMem.ld M a_1.block (a_1.off + ((Int.toNat x8) * 3)))) fun x_2 =>
          (Option.bind (intOf? .i64 (AMem.ld M a_1.block ((a_1.off + ((Int.toNat x8) * 3)) + 1))) fun x_3 =>
          (Option.bind (intOf? .i64 (AMem.ld M a_1.block ((a_1.off + ((Int.toNat x8) * 3)) + 2))) fun x_4 =>
          (Option.bind (AMem.wr (M ++ [AObj.cells [.int .i64 0, .int .i64 0, .int .i64 0] ⟨false, 0⟩]) (List.length M) 0 [.int .i64 x_2, .int .i64 x_3, .int .i64 x_4]) fun M_5 =>
          (Option.bind (intOf? .i64 (AMem.ld M_5 (List.length M) 0)) fun x_6 =>
          (Option.bind (L.call 31 [.int .i64 x_6] []) fun r_7 =>
          (Option.bind (boolOf? (some r_7.1)) fun q_8 =>
          (if (!q_8) = true
          then some (.bool false, M_5)
          else (Option.bind (intOf? .i64 (AMem.ld M_5 (List.length M) 1)) fun x_9 =>
            (Option.bind (L.call 31 [.int .i64 x_9] []) fun r_10 =>
            (Option.bind (boolOf? (some r_10.1)) fun q_11 =>
            (if (!q_11) = true
            then some (.bool false, M_5)
            else (Option.bind (intOf? .i64 (AMem.ld M_5 (List.length M) 2)) fun x_12 =>
              (Option.bind (L.call 31 [.int .i64 x_12] []) fun r_13 =>
              (Option.bind (boolOf? (some r_13.1)) fun q_14 =>
              (if (!q_14) = true
              then some (.bool false, M_5)
              else P22_24 L x1 x6 x6n x6c x7 x8 M_5))))))))))))))))
        else none)
      | none => none)
    else P22_25 L x1 M) := QP22_6_eq L b22_6 c22_24 c22_25 (hL b22_6) P22_6 (Classical.choose_spec XP22_6) P22_24 (Classical.choose_spec XP22_24) P22_25 (Classical.choose_spec XP22_25) x1 x6 x6n x6c x7 x8 M
theorem QP22_24_eq (L : Rec) (b22_6 c22_25 : ACode) (P22_6 : Rec → Nat → (Option Addr) → Nat → Nat → Int → Int → AMem → Res) (hP22_6 : P22_6 = fun (L : Rec) (x1 : Nat) (x6 : Option Addr) (x6n : Nat) (x6c : Nat) (x7 : Int) (x8 : Int) (M : AMem) => L.loop b22_6 (blockK 0 (seqK (code L (.clear zl40 c22_25) (retK [.tmp 2])) (retK [.tmp 2]))) (s22_6 x1 x6 x6n x6c x7 x8 M) M) (P22_24 : Rec → Nat → (Option Addr) → Nat → Nat → Int → Int → AMem → Res) (hP22_24 : P22_24 = fun (L : Rec) (x1 : Nat) (x6 : Option Addr) (x6n : Nat) (x6c : Nat) (x7 : Int) (x8 : Int) (M : AMem) => code L (.ops o22_24) (postK zl39 (loopK L b22_6 (blockK 0 (seqK (code L (.clear zl40 c22_25) (retK [.tmp 2])) (retK [.tmp 2]))))) (s22_24 x1 x6 x6n x6c x7 x8 M) M) (x1 : Nat) (x6 : Option Addr) (x6n : Nat) (x6c : Nat) (x7 : Int) (x8 : Int) (M : AMem) : P22_24 L x1 x6 x6n x6c x7 x8 M =
  P22_6 L x1 x6 x6n x6c x7 (IntKind.wrap .i64 (x8 + 1)) M := by
  subst hP22_6; subst hP22_24; kernel_rfl
theorem P22_24_eq (L : Rec) (x1 : Nat) (x6 : Option Addr) (x6n : Nat) (x6c : Nat) (x7 : Int) (x8 : Int) (M : AMem) : P22_24 L x1 x6 x6n x6c x7 x8 M =
  P22_6 L x1 x6 x6n x6c x7 (IntKind.wrap .i64 (x8 + 1)) M := QP22_24_eq L b22_6 c22_25 P22_6 (Classical.choose_spec XP22_6) P22_24 (Classical.choose_spec XP22_24) x1 x6 x6n x6c x7 x8 M
theorem QP22_25_eq (L : Rec) (P22_25 : Rec → Nat → AMem → Res) (hP22_25 : P22_25 = fun (L : Rec) (x1 : Nat) (M : AMem) => code L (.seq (.ops o22_26) (.ret)) (retK [.tmp 2]) (s22_25 x1 M) M) (x1 : Nat) (M : AMem) : P22_25 L x1 M =
  (Option.bind (intOf? .i64 (AMem.ld M x1 0)) fun x_1 =>
    (Option.bind (intOf? .i64 (AMem.ld M x1 1)) fun x_2 =>
    (Option.bind (sliceOf? (AMem.ld M x1 2)) fun s_3 =>
    (Option.bind (L.call 32 [.int .i64 x_1, .int .i64 x_2, .int .i64 (Int.ofNat s_3.2.1)] []) fun r_4 =>
    (Option.bind (boolOf? (some r_4.1)) fun q_5 =>
    some (.bool q_5, M)))))) := by
  subst hP22_25; kernel_rfl
theorem P22_25_eq (L : Rec) (x1 : Nat) (M : AMem) : P22_25 L x1 M =
  (Option.bind (intOf? .i64 (AMem.ld M x1 0)) fun x_1 =>
    (Option.bind (intOf? .i64 (AMem.ld M x1 1)) fun x_2 =>
    (Option.bind (sliceOf? (AMem.ld M x1 2)) fun s_3 =>
    (Option.bind (L.call 32 [.int .i64 x_1, .int .i64 x_2, .int .i64 (Int.ofNat s_3.2.1)] []) fun r_4 =>
    (Option.bind (boolOf? (some r_4.1)) fun q_5 =>
    some (.bool q_5, M)))))) := QP22_25_eq L P22_25 (Classical.choose_spec XP22_25) x1 M
theorem QE22 (L : Rec) (b22_6 c22_25 : ACode) (P22_6 : Rec → Nat → (Option Addr) → Nat → Nat → Int → Int → AMem → Res) (hP22_6 : P22_6 = fun (L : Rec) (x1 : Nat) (x6 : Option Addr) (x6n : Nat) (x6c : Nat) (x7 : Int) (x8 : Int) (M : AMem) => L.loop b22_6 (blockK 0 (seqK (code L (.clear zl40 c22_25) (retK [.tmp 2])) (retK [.tmp 2]))) (s22_6 x1 x6 x6n x6c x7 x8 M) M) (x0_0 : Int) (x0_1 : Int) (x0_2 : Option Addr) (x0_2n : Nat) (x0_2c : Nat) (M : AMem) : enterF L ⟨37, [.tmp 2], .seq (.ops o22_1) (.seq (.seq (.ops o22_4) (.block 0 (.clear zl39 (.loop b22_6)))) (.clear zl40 c22_25))⟩ [.agg #[.int .i64 x0_0, .int .i64 x0_1, .slice x0_2 x0_2n x0_2c]] M =
  (Option.bind (sliceOf? (AMem.ld (M ++ [AObj.cells [.int .i64 x0_0, .int .i64 x0_1, .slice x0_2 x0_2n x0_2c] ⟨false, 0⟩]) (List.length M) 2)) fun s_1 =>
    P22_6 L (List.length M) s_1.1 s_1.2.1 s_1.2.2 (Int.ofNat s_1.2.1) 0 (M ++ [AObj.cells [.int .i64 x0_0, .int .i64 x0_1, .slice x0_2 x0_2n x0_2c] ⟨false, 0⟩])) := by
  subst hP22_6; kernel_rfl
theorem E22 (L : Rec) (x0_0 : Int) (x0_1 : Int) (x0_2 : Option Addr) (x0_2n : Nat) (x0_2c : Nat) (M : AMem) : enterF L a22 [.agg #[.int .i64 x0_0, .int .i64 x0_1, .slice x0_2 x0_2n x0_2c]] M =
  (Option.bind (sliceOf? (AMem.ld (M ++ [AObj.cells [.int .i64 x0_0, .int .i64 x0_1, .slice x0_2 x0_2n x0_2c] ⟨false, 0⟩]) (List.length M) 2)) fun s_1 =>
    P22_6 L (List.length M) s_1.1 s_1.2.1 s_1.2.2 (Int.ofNat s_1.2.1) 0 (M ++ [AObj.cells [.int .i64 x0_0, .int .i64 x0_1, .slice x0_2 x0_2n x0_2c] ⟨false, 0⟩])) := QE22 L b22_6 c22_25 P22_6 (Classical.choose_spec XP22_6) x0_0 x0_1 x0_2 x0_2n x0_2c M
/-! #### skylightref01.Div -/
noncomputable def k30_18 (L : Rec) : KT := retK [.tmp 4]
def s30_18 (x5 : Int) : List Value := [junk, junk, junk, junk, junk, .int .i64 x5, junk, junk, junk, junk, junk, junk, junk, junk, junk, junk, junk, junk, junk, junk, junk, junk]
theorem XP30_18 : ∃ P : Rec → Int → Res, P = fun (L : Rec) (x5 : Int) => code L c30_18 (k30_18 L) (s30_18 x5) ([] : AMem) := ⟨_, rfl⟩
noncomputable def P30_18 : Rec → Int → Res := Classical.choose XP30_18
theorem QP30_18_eq (L : Rec) (P30_18 : Rec → Int → Res) (hP30_18 : P30_18 = fun (L : Rec) (x5 : Int) => code L (.seq (.ops o30_19) (.ret)) (retK [.tmp 4]) (s30_18 x5) ([] : AMem)) (x5 : Int) : P30_18 L x5 =
  some (.int .i64 x5, ([] : AMem)) := by
  subst hP30_18; kernel_rfl
theorem P30_18_eq (L : Rec) (x5 : Int) : P30_18 L x5 =
  some (.int .i64 x5, ([] : AMem)) := QP30_18_eq L P30_18 (Classical.choose_spec XP30_18) x5
theorem QE30 (L : Rec) (c30_18 : ACode) (P30_18 : Rec → Int → Res) (hP30_18 : P30_18 = fun (L : Rec) (x5 : Int) => code L c30_18 (retK [.tmp 4]) (s30_18 x5) ([] : AMem)) (x0 : Int) (x1 : Int) : enterF L ⟨22, [.tmp 4], .seq (.ops o30_1) (.seq (.seq (.ops o30_4) (.cond (.tmp 7) (.seq (.ops o30_7) (.ret)) (.skip))) (.seq (.ops o30_11) (.seq (.seq (.ops o30_14) (.cond (.tmp 18) (.ops o30_16) (.skip))) (.clear zl48 c30_18))))⟩ [.int .i64 x0, .int .i64 x1] [] =
  (if (decide (x1 < 1)) = true
    then some (.int .i64 0, ([] : AMem))
    else (if x1 = 0
      then none
      else (if (decide (x0 < 0)) = true
        then (if x1 = 0
          then none
          else (if ((Int.tmod x0 x1) != 0) = true
            then P30_18 L (IntKind.wrap .i64 ((IntKind.wrap .i64 (Int.tdiv x0 x1)) - 1))
            else P30_18 L (IntKind.wrap .i64 (Int.tdiv x0 x1))))
        else P30_18 L (IntKind.wrap .i64 (Int.tdiv x0 x1))))) := by
  subst hP30_18; kernel_rfl
theorem E30 (L : Rec) (x0 : Int) (x1 : Int) : enterF L a30 [.int .i64 x0, .int .i64 x1] [] =
  (if (decide (x1 < 1)) = true
    then some (.int .i64 0, ([] : AMem))
    else (if x1 = 0
      then none
      else (if (decide (x0 < 0)) = true
        then (if x1 = 0
          then none
          else (if ((Int.tmod x0 x1) != 0) = true
            then P30_18 L (IntKind.wrap .i64 ((IntKind.wrap .i64 (Int.tdiv x0 x1)) - 1))
            else P30_18 L (IntKind.wrap .i64 (Int.tdiv x0 x1))))
        else P30_18 L (IntKind.wrap .i64 (Int.tdiv x0 x1))))) := QE30 L c30_18 P30_18 (Classical.choose_spec XP30_18) x0 x1
end Go.Proofs.Ytncfdkmhpnopiaa
