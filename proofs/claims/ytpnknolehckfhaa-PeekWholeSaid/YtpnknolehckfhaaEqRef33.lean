/- What the pieces of some functions come to. -/
import Derived.Test.YtpnknolehckfhaaCode
set_option linter.unusedVariables false
set_option maxRecDepth 100000
namespace Go.Proofs.Ytpnknolehckfhaa
open Go Go.Ax
/-! #### skylightref33.New -/
noncomputable def k25_14 (L : Rec) : KT := blockK 0 (seqK (code L (.clear zl49 c25_31) (retK [.cell true [.int .i64, .slice, .int .i64, .bool, .int .u64, .int .i64] 6, .tmp 7])) (retK [.cell true [.int .i64, .slice, .int .i64, .bool, .int .u64, .int .i64] 6, .tmp 7]))
def s25_14 (x1 : Int) (x2 : Option Addr) (x2n : Nat) (x2c : Nat) (x3 : Nat) (x6 : Nat) (x8 : Int) (M : AMem) : List Value := [junk, .int .i64 x1, .slice x2 x2n x2c, .pointer (some ⟨x3, 0, none⟩), junk, junk, .pointer (some ⟨x6, 0, none⟩), junk, .int .i64 x8, junk, junk, junk, junk, junk, junk, junk, junk, junk, junk, junk, junk, junk, junk, junk, junk, junk, junk, junk, junk, junk, junk, junk, junk, junk, junk, junk, junk, junk, junk, junk, junk, junk, junk, junk, junk, junk, junk, junk, junk, junk, junk, junk, junk, junk, junk, junk, junk, junk, junk, junk, junk, junk, junk, junk, junk, junk, junk, junk, junk, junk, junk, junk, junk, junk]
theorem XP25_14 : ∃ P : Rec → Int → (Option Addr) → Nat → Nat → Nat → Nat → Int → AMem → Res, P = fun (L : Rec) (x1 : Int) (x2 : Option Addr) (x2n : Nat) (x2c : Nat) (x3 : Nat) (x6 : Nat) (x8 : Int) (M : AMem) => L.loop b25_14 (k25_14 L) (s25_14 x1 x2 x2n x2c x3 x6 x8 M) M := ⟨_, rfl⟩
noncomputable def P25_14 : Rec → Int → (Option Addr) → Nat → Nat → Nat → Nat → Int → AMem → Res := Classical.choose XP25_14
noncomputable def k25_30 (L : Rec) : KT := postK zl48 (loopK L b25_14 (blockK 0 (seqK (code L (.clear zl49 c25_31) (retK [.cell true [.int .i64, .slice, .int .i64, .bool, .int .u64, .int .i64] 6, .tmp 7])) (retK [.cell true [.int .i64, .slice, .int .i64, .bool, .int .u64, .int .i64] 6, .tmp 7]))))
def s25_30 (x1 : Int) (x2 : Option Addr) (x2n : Nat) (x2c : Nat) (x3 : Nat) (x6 : Nat) (x8 : Int) (M : AMem) : List Value := [junk, .int .i64 x1, .slice x2 x2n x2c, .pointer (some ⟨x3, 0, none⟩), junk, junk, .pointer (some ⟨x6, 0, none⟩), junk, .int .i64 x8, junk, junk, junk, junk, junk, junk, junk, junk, junk, junk, junk, junk, junk, junk, junk, junk, junk, junk, junk, junk, junk, junk, junk, junk, junk, junk, junk, junk, junk, junk, junk, junk, junk, junk, junk, junk, junk, junk, junk, junk, junk, junk, junk, junk, junk, junk, junk, junk, junk, junk, junk, junk, junk, junk, junk, junk, junk, junk, junk, junk, junk, junk, junk, junk, junk]
theorem XP25_30 : ∃ P : Rec → Int → (Option Addr) → Nat → Nat → Nat → Nat → Int → AMem → Res, P = fun (L : Rec) (x1 : Int) (x2 : Option Addr) (x2n : Nat) (x2c : Nat) (x3 : Nat) (x6 : Nat) (x8 : Int) (M : AMem) => code L c25_30 (k25_30 L) (s25_30 x1 x2 x2n x2c x3 x6 x8 M) M := ⟨_, rfl⟩
noncomputable def P25_30 : Rec → Int → (Option Addr) → Nat → Nat → Nat → Nat → Int → AMem → Res := Classical.choose XP25_30
noncomputable def k25_31 (L : Rec) : KT := retK [.cell true [.int .i64, .slice, .int .i64, .bool, .int .u64, .int .i64] 6, .tmp 7]
def s25_31 (x1 : Int) (x2 : Option Addr) (x2n : Nat) (x2c : Nat) (x3 : Nat) (x6 : Nat) (M : AMem) : List Value := [junk, .int .i64 x1, .slice x2 x2n x2c, .pointer (some ⟨x3, 0, none⟩), junk, junk, .pointer (some ⟨x6, 0, none⟩), junk, junk, junk, junk, junk, junk, junk, junk, junk, junk, junk, junk, junk, junk, junk, junk, junk, junk, junk, junk, junk, junk, junk, junk, junk, junk, junk, junk, junk, junk, junk, junk, junk, junk, junk, junk, junk, junk, junk, junk, junk, junk, junk, junk, junk, junk, junk, junk, junk, junk, junk, junk, junk, junk, junk, junk, junk, junk, junk, junk, junk, junk, junk, junk, junk, junk, junk]
theorem XP25_31 : ∃ P : Rec → Int → (Option Addr) → Nat → Nat → Nat → Nat → AMem → Res, P = fun (L : Rec) (x1 : Int) (x2 : Option Addr) (x2n : Nat) (x2c : Nat) (x3 : Nat) (x6 : Nat) (M : AMem) => code L c25_31 (k25_31 L) (s25_31 x1 x2 x2n x2c x3 x6 M) M := ⟨_, rfl⟩
noncomputable def P25_31 : Rec → Int → (Option Addr) → Nat → Nat → Nat → Nat → AMem → Res := Classical.choose XP25_31
theorem QP25_14_eq (L : Rec) (b25_14 c25_30 c25_31 : ACode) (hb : ∀ K t A, L.loop b25_14 K t A = code L (.post (.seq (.seq (.ops o25_17) (.cond (.tmp 32) (.skip) (.exit 0))) (.seq (.block 1 (.seq (.draw [] 0 o25_24 []) (.cond (.tmp 62) (.seq (.ops o25_27) (.ret)) (.skip)))) (.clear zl48 c25_30))) zl48) (loopK L b25_14 K) t A) (P25_14 : Rec → Int → (Option Addr) → Nat → Nat → Nat → Nat → Int → AMem → Res) (hP25_14 : Eq P25_14 fun L x1 x2 x2n x2c x3 x6 x8 M => L.loop b25_14 (blockK 0 (seqK (code L (.clear zl49 c25_31) (retK [.cell true [.int .i64, .slice, .int .i64, .bool, .int .u64, .int .i64] 6, .tmp 7])) (retK [.cell true [.int .i64, .slice, .int .i64, .bool, .int .u64, .int .i64] 6, .tmp 7]))) (s25_14 x1 x2 x2n x2c x3 x6 x8 M) M) (P25_30 : Rec → Int → (Option Addr) → Nat → Nat → Nat → Nat → Int → AMem → Res) (hP25_30 : Eq P25_30 fun L x1 x2 x2n x2c x3 x6 x8 M => code L c25_30 (postK zl48 (loopK L b25_14 (blockK 0 (seqK (code L (.clear zl49 c25_31) (retK [.cell true [.int .i64, .slice, .int .i64, .bool, .int .u64, .int .i64] 6, .tmp 7])) (retK [.cell true [.int .i64, .slice, .int .i64, .bool, .int .u64, .int .i64] 6, .tmp 7]))))) (s25_30 x1 x2 x2n x2c x3 x6 x8 M) M) (P25_31 : Rec → Int → (Option Addr) → Nat → Nat → Nat → Nat → AMem → Res) (hP25_31 : Eq P25_31 fun L x1 x2 x2n x2c x3 x6 M => code L c25_31 (retK [.cell true [.int .i64, .slice, .int .i64, .bool, .int .u64, .int .i64] 6, .tmp 7]) (s25_31 x1 x2 x2n x2c x3 x6 M) M) (x1 : Int) (x2 : Option Addr) (x2n : Nat) (x2c : Nat) (x3 : Nat) (x6 : Nat) (x8 : Int) (M : AMem) : P25_14 L x1 x2 x2n x2c x3 x6 x8 M =
  (if (decide (x8 < (Int.ofNat x2n))) = true
    then (match x2 with
      | some a_1 => (if (0 : Int) ≤ x8 ∧ x8 < (Int.ofNat x2n)
        then (Option.bind (intOf? .i64 (AMem.ld M a_1.block (a_1.off + ((Int.toNat x8) * 4)))) fun x_2 =>
          (if (decide (x_2 < 0)) = true
          then (Option.bind (AMem.wr M x6 0 [.int .i64 0, .slice none 0 0, .int .i64 0, .bool false, .int .u64 0, .int .i64 0]) fun M_3 =>
            (Option.bind (intOf? .i64 (AMem.ld M_3 x6 0)) fun x_4 =>
            (Option.bind (sliceOf? (AMem.ld M_3 x6 1)) fun s_5 =>
            (Option.bind (intOf? .i64 (AMem.ld M_3 x6 2)) fun x_6 =>
            (Option.bind (boolOf? (AMem.ld M_3 x6 3)) fun q_7 =>
            (Option.bind (intOf? .u64 (AMem.ld M_3 x6 4)) fun x_8 =>
            (Option.bind (intOf? .i64 (AMem.ld M_3 x6 5)) fun x_9 =>
            some (.tuple #[.agg #[.int .i64 x_4, .slice s_5.1 s_5.2.1 s_5.2.2, .int .i64 x_6, .bool q_7, .int .u64 x_8, .int .i64 x_9], .bool false], M_3))))))))
          else (match x2 with
            | some a_10 => (if (0 : Int) ≤ x8 ∧ x8 < (Int.ofNat x2n)
              then (Option.bind (intOf? .i64 (AMem.ld M a_10.block (a_10.off + ((Int.toNat x8) * 4)))) fun x_11 =>
                (Option.bind (intOf? .i64 (AMem.ld M x3 0)) fun x_12 =>
                (if (decide (x_11 ≥ x_12)) = true
                then (Option.bind (AMem.wr M x6 0 [.int .i64 0, .slice none 0 0, .int .i64 0, .bool false, .int .u64 0, .int .i64 0]) fun M_13 =>
                  (Option.bind (intOf? .i64 (AMem.ld M_13 x6 0)) fun x_14 =>
                  (Option.bind (sliceOf? (AMem.ld M_13 x6 1)) fun s_15 =>
                  (Option.bind (intOf? .i64 (AMem.ld M_13 x6 2)) fun x_16 =>
                  (Option.bind (boolOf? (AMem.ld M_13 x6 3)) fun q_17 =>
                  (Option.bind (intOf? .u64 (AMem.ld M_13 x6 4)) fun x_18 =>
                  (Option.bind (intOf? .i64 (AMem.ld M_13 x6 5)) fun x_19 =>
                  some (.tuple #[.agg #[.int .i64 x_14, .slice s_15.1 s_15.2.1 s_15.2.2, .int .i64 x_16, .bool q_17, .int .u64 x_18, .int .i64 x_19], .bool false], M_13))))))))
                else (match x2 with
                  | some a_20 => (if (0 : Int) ≤ x8 ∧ x8 < (Int.ofNat x2n)
                    then (Option.bind (intOf? .i64 (AMem.ld M a_20.block (a_20.off + ((Int.toNat x8) * 4)))) fun x_21 =>
                      (Option.bind (intOf? .i64 (AMem.ld M x3 1)) fun x_22 =>
                      (if x_22 = 0
                      then none
                      else (if ((Int.tmod x_21 x_22) != x1) = true
                        then (Option.bind (AMem.wr M x6 0 [.int .i64 0, .slice none 0 0, .int .i64 0, .bool false, .int .u64 0, .int .i64 0]) fun M_23 =>
                          (Option.bind (intOf? .i64 (AMem.ld M_23 x6 0)) fun x_24 =>
                          (Option.bind (sliceOf? (AMem.ld M_23 x6 1)) fun s_25 =>
                          (Option.bind (intOf? .i64 (AMem.ld M_23 x6 2)) fun x_26 =>
                          (Option.bind (boolOf? (AMem.ld M_23 x6 3)) fun q_27 =>
                          (Option.bind (intOf? .u64 (AMem.ld M_23 x6 4)) fun x_28 =>
                          (Option.bind (intOf? .i64 (AMem.ld M_23 x6 5)) fun x_29 =>
                          some (.tuple #[.agg #[.int .i64 x_24, .slice s_25.1 s_25.2.1 s_25.2.2, .int .i64 x_26, .bool q_27, .int .u64 x_28, .int .i64 x_29], .bool false], M_23))))))))
                        else P25_30 L x1 x2 x2n x2c x3 x6 x8 M))))
                    else none)
                  | none => none))))
              else none)
            | none => none)))
        else none)
      | none => none)
    else P25_31 L x1 x2 x2n x2c x3 x6 M) := by
  subst hP25_14; subst hP25_30; subst hP25_31; exact (hb (blockK 0 (seqK (code L (.clear zl49 c25_31) (retK [.cell true [.int .i64, .slice, .int .i64, .bool, .int .u64, .int .i64] 6, .tmp 7])) (retK [.cell true [.int .i64, .slice, .int .i64, .bool, .int .u64, .int .i64] 6, .tmp 7]))) (s25_14 x1 x2 x2n x2c x3 x6 x8 M) M).trans (by kernel_rfl)
theorem P25_14_eq (L : Rec) (hL : ∀ b K t A, L.loop b K t A = code L b (loopK L b K) t A) (x1 : Int) (x2 : Option Addr) (x2n : Nat) (x2c : Nat) (x3 : Nat) (x6 : Nat) (x8 : Int) (M : AMem) : P25_14 L x1 x2 x2n x2c x3 x6 x8 M =
  (if (decide (x8 < (Int.ofNat x2n))) = true
    then (match x2 with
      | some a_1 => (if (0 : Int) ≤ x8 ∧ x8 < (Int.ofNat x2n)
        then (Option.bind (intOf? .i64 (AMem.ld M a_1.block (a_1.off + ((Int.toNat x8) * 4)))) fun x_2 =>
          (if (decide (x_2 < 0)) = true
          then (Option.bind (AMem.wr M x6 0 [.int .i64 0, .slice none 0 0, .int .i64 0, .bool false, .int .u64 0, .int .i64 0]) fun M_3 =>
            (Option.bind (intOf? .i64 (AMem.ld M_3 x6 0)) fun x_4 =>
            (Option.bind (sliceOf? (AMem.ld M_3 x6 1)) fun s_5 =>
            (Option.bind (intOf? .i64 (AMem.ld M_3 x6 2)) fun x_6 =>
            (Option.bind (boolOf? (AMem.ld M_3 x6 3)) fun q_7 =>
            (Option.bind (intOf? .u64 (AMem.ld M_3 x6 4)) fun x_8 =>
            (Option.bind (intOf? .i64 (AMem.ld M_3 x6 5)) fun x_9 =>
            some (.tuple #[.agg #[.int .i64 x_4, .slice s_5.1 s_5.2.1 s_5.2.2, .int .i64 x_6, .bool q_7, .int .u64 x_8, .int .i64 x_9], .bool false], M_3))))))))
          else (match x2 with
            | some a_10 => (if (0 : Int) ≤ x8 ∧ x8 < (Int.ofNat x2n)
              then (Option.bind (intOf? .i64 (AMem.ld M a_10.block (a_10.off + ((Int.toNat x8) * 4)))) fun x_11 =>
                (Option.bind (intOf? .i64 (AMem.ld M x3 0)) fun x_12 =>
                (if (decide (x_11 ≥ x_12)) = true
                then (Option.bind (AMem.wr M x6 0 [.int .i64 0, .slice none 0 0, .int .i64 0, .bool false, .int .u64 0, .int .i64 0]) fun M_13 =>
                  (Option.bind (intOf? .i64 (AMem.ld M_13 x6 0)) fun x_14 =>
                  (Option.bind (sliceOf? (AMem.ld M_13 x6 1)) fun s_15 =>
                  (Option.bind (intOf? .i64 (AMem.ld M_13 x6 2)) fun x_16 =>
                  (Option.bind (boolOf? (AMem.ld M_13 x6 3)) fun q_17 =>
                  (Option.bind (intOf? .u64 (AMem.ld M_13 x6 4)) fun x_18 =>
                  (Option.bind (intOf? .i64 (AMem.ld M_13 x6 5)) fun x_19 =>
                  some (.tuple #[.agg #[.int .i64 x_14, .slice s_15.1 s_15.2.1 s_15.2.2, .int .i64 x_16, .bool q_17, .int .u64 x_18, .int .i64 x_19], .bool false], M_13))))))))
                else (match x2 with
                  | some a_20 => (if (0 : Int) ≤ x8 ∧ x8 < (Int.ofNat x2n)
                    then (Option.bind (intOf? .i64 (AMem.ld M a_20.block (a_20.off + ((Int.toNat x8) * 4)))) fun x_21 =>
                      (Option.bind (intOf? .i64 (AMem.ld M x3 1)) fun x_22 =>
                      (if x_22 = 0
                      then none
                      else (if ((Int.tmod x_21 x_22) != x1) = true
                        then (Option.bind (AMem.wr M x6 0 [.int .i64 0, .slice none 0 0, .int .i64 0, .bool false, .int .u64 0, .int .i64 0]) fun M_23 =>
                          (Option.bind (intOf? .i64 (AMem.ld M_23 x6 0)) fun x_24 =>
                          (Option.bind (sliceOf? (AMem.ld M_23 x6 1)) fun s_25 =>
                          (Option.bind (intOf? .i64 (AMem.ld M_23 x6 2)) fun x_26 =>
                          (Option.bind (boolOf? (AMem.ld M_23 x6 3)) fun q_27 =>
                          (Option.bind (intOf? .u64 (AMem.ld M_23 x6 4)) fun x_28 =>
                          (Option.bind (intOf? .i64 (AMem.ld M_23 x6 5)) fun x_29 =>
                          some (.tuple #[.agg #[.int .i64 x_24, .slice s_25.1 s_25.2.1 s_25.2.2, .int .i64 x_26, .bool q_27, .int .u64 x_28, .int .i64 x_29], .bool false], M_23))))))))
                        else P25_30 L x1 x2 x2n x2c x3 x6 x8 M))))
                    else none)
                  | none => none))))
              else none)
            | none => none)))
        else none)
      | none => none)
    else P25_31 L x1 x2 x2n x2c x3 x6 M) := QP25_14_eq L b25_14 c25_30 c25_31 (hL b25_14) P25_14 (Classical.choose_spec XP25_14) P25_30 (Classical.choose_spec XP25_30) P25_31 (Classical.choose_spec XP25_31) x1 x2 x2n x2c x3 x6 x8 M
theorem QP25_30_eq (L : Rec) (b25_14 c25_31 : ACode) (P25_14 : Rec → Int → (Option Addr) → Nat → Nat → Nat → Nat → Int → AMem → Res) (hP25_14 : Eq P25_14 fun L x1 x2 x2n x2c x3 x6 x8 M => L.loop b25_14 (blockK 0 (seqK (code L (.clear zl49 c25_31) (retK [.cell true [.int .i64, .slice, .int .i64, .bool, .int .u64, .int .i64] 6, .tmp 7])) (retK [.cell true [.int .i64, .slice, .int .i64, .bool, .int .u64, .int .i64] 6, .tmp 7]))) (s25_14 x1 x2 x2n x2c x3 x6 x8 M) M) (P25_30 : Rec → Int → (Option Addr) → Nat → Nat → Nat → Nat → Int → AMem → Res) (hP25_30 : Eq P25_30 fun L x1 x2 x2n x2c x3 x6 x8 M => code L (.ops o25_30) (postK zl48 (loopK L b25_14 (blockK 0 (seqK (code L (.clear zl49 c25_31) (retK [.cell true [.int .i64, .slice, .int .i64, .bool, .int .u64, .int .i64] 6, .tmp 7])) (retK [.cell true [.int .i64, .slice, .int .i64, .bool, .int .u64, .int .i64] 6, .tmp 7]))))) (s25_30 x1 x2 x2n x2c x3 x6 x8 M) M) (x1 : Int) (x2 : Option Addr) (x2n : Nat) (x2c : Nat) (x3 : Nat) (x6 : Nat) (x8 : Int) (M : AMem) : P25_30 L x1 x2 x2n x2c x3 x6 x8 M =
  P25_14 L x1 x2 x2n x2c x3 x6 (IntKind.wrap .i64 (x8 + 1)) M := by
  subst hP25_14; subst hP25_30; kernel_rfl
theorem P25_30_eq (L : Rec) (x1 : Int) (x2 : Option Addr) (x2n : Nat) (x2c : Nat) (x3 : Nat) (x6 : Nat) (x8 : Int) (M : AMem) : P25_30 L x1 x2 x2n x2c x3 x6 x8 M =
  P25_14 L x1 x2 x2n x2c x3 x6 (IntKind.wrap .i64 (x8 + 1)) M := QP25_30_eq L b25_14 c25_31 P25_14 (Classical.choose_spec XP25_14) P25_30 (Classical.choose_spec XP25_30) x1 x2 x2n x2c x3 x6 x8 M
theorem QP25_31_eq (L : Rec) (P25_31 : Rec → Int → (Option Addr) → Nat → Nat → Nat → Nat → AMem → Res) (hP25_31 : Eq P25_31 fun L x1 x2 x2n x2c x3 x6 M => code L (.seq (.ops o25_32) (.seq (.ops o25_34) (.ret))) (retK [.cell true [.int .i64, .slice, .int .i64, .bool, .int .u64, .int .i64] 6, .tmp 7]) (s25_31 x1 x2 x2n x2c x3 x6 M) M) (x1 : Int) (x2 : Option Addr) (x2n : Nat) (x2c : Nat) (x3 : Nat) (x6 : Nat) (M : AMem) : P25_31 L x1 x2 x2n x2c x3 x6 M =
  (Option.bind (intOf? .i64 (AMem.ld M x3 0)) fun x_1 =>
    (Option.bind (intOf? .i64 (AMem.ld M x3 1)) fun x_2 =>
    (Option.bind (L.call 48 [.agg #[.int .i64 x_1, .int .i64 x_2], .int .i64 x1, .slice x2 x2n x2c] M) fun r_3 =>
    (Option.bind (sliceOf? (some r_3.1)) fun s_4 =>
    (Option.bind (intOf? .i64 (AMem.ld r_3.2 x3 0)) fun x_5 =>
    (Option.bind (intOf? .i64 (AMem.ld r_3.2 x3 1)) fun x_6 =>
    (Option.bind (L.call 10 [.agg #[.int .i64 x_5, .int .i64 x_6]] []) fun r_7 =>
    (Option.bind (intOf? .i64 (some r_7.1)) fun x_8 =>
    (Option.bind (AMem.wr r_3.2 x6 0 [.int .i64 x_8, .slice s_4.1 s_4.2.1 s_4.2.2, .int .i64 (Int.ofNat s_4.2.1), .bool false, .int .u64 0, .int .i64 0]) fun M_9 =>
    (Option.bind (intOf? .i64 (AMem.ld M_9 x6 0)) fun x_10 =>
    (Option.bind (sliceOf? (AMem.ld M_9 x6 1)) fun s_11 =>
    (Option.bind (intOf? .i64 (AMem.ld M_9 x6 2)) fun x_12 =>
    (Option.bind (boolOf? (AMem.ld M_9 x6 3)) fun q_13 =>
    (Option.bind (intOf? .u64 (AMem.ld M_9 x6 4)) fun x_14 =>
    (Option.bind (intOf? .i64 (AMem.ld M_9 x6 5)) fun x_15 =>
    some (.tuple #[.agg #[.int .i64 x_10, .slice s_11.1 s_11.2.1 s_11.2.2, .int .i64 x_12, .bool q_13, .int .u64 x_14, .int .i64 x_15], .bool true], M_9)))))))))))))))) := by
  subst hP25_31; kernel_rfl
theorem P25_31_eq (L : Rec) (x1 : Int) (x2 : Option Addr) (x2n : Nat) (x2c : Nat) (x3 : Nat) (x6 : Nat) (M : AMem) : P25_31 L x1 x2 x2n x2c x3 x6 M =
  (Option.bind (intOf? .i64 (AMem.ld M x3 0)) fun x_1 =>
    (Option.bind (intOf? .i64 (AMem.ld M x3 1)) fun x_2 =>
    (Option.bind (L.call 48 [.agg #[.int .i64 x_1, .int .i64 x_2], .int .i64 x1, .slice x2 x2n x2c] M) fun r_3 =>
    (Option.bind (sliceOf? (some r_3.1)) fun s_4 =>
    (Option.bind (intOf? .i64 (AMem.ld r_3.2 x3 0)) fun x_5 =>
    (Option.bind (intOf? .i64 (AMem.ld r_3.2 x3 1)) fun x_6 =>
    (Option.bind (L.call 10 [.agg #[.int .i64 x_5, .int .i64 x_6]] []) fun r_7 =>
    (Option.bind (intOf? .i64 (some r_7.1)) fun x_8 =>
    (Option.bind (AMem.wr r_3.2 x6 0 [.int .i64 x_8, .slice s_4.1 s_4.2.1 s_4.2.2, .int .i64 (Int.ofNat s_4.2.1), .bool false, .int .u64 0, .int .i64 0]) fun M_9 =>
    (Option.bind (intOf? .i64 (AMem.ld M_9 x6 0)) fun x_10 =>
    (Option.bind (sliceOf? (AMem.ld M_9 x6 1)) fun s_11 =>
    (Option.bind (intOf? .i64 (AMem.ld M_9 x6 2)) fun x_12 =>
    (Option.bind (boolOf? (AMem.ld M_9 x6 3)) fun q_13 =>
    (Option.bind (intOf? .u64 (AMem.ld M_9 x6 4)) fun x_14 =>
    (Option.bind (intOf? .i64 (AMem.ld M_9 x6 5)) fun x_15 =>
    some (.tuple #[.agg #[.int .i64 x_10, .slice s_11.1 s_11.2.1 s_11.2.2, .int .i64 x_12, .bool q_13, .int .u64 x_14, .int .i64 x_15], .bool true], M_9)))))))))))))))) := QP25_31_eq L P25_31 (Classical.choose_spec XP25_31) x1 x2 x2n x2c x3 x6 M
theorem QE25 (L : Rec) (b25_14 c25_31 : ACode) (P25_14 : Rec → Int → (Option Addr) → Nat → Nat → Nat → Nat → Int → AMem → Res) (hP25_14 : Eq P25_14 fun L x1 x2 x2n x2c x3 x6 x8 M => L.loop b25_14 (blockK 0 (seqK (code L (.clear zl49 c25_31) (retK [.cell true [.int .i64, .slice, .int .i64, .bool, .int .u64, .int .i64] 6, .tmp 7])) (retK [.cell true [.int .i64, .slice, .int .i64, .bool, .int .u64, .int .i64] 6, .tmp 7]))) (s25_14 x1 x2 x2n x2c x3 x6 x8 M) M) (x0_0 : Int) (x0_1 : Int) (x1 : Int) (x2 : Option Addr) (x2n : Nat) (x2c : Nat) (M : AMem) : enterF L ⟨74, [.cell true [.int .i64, .slice, .int .i64, .bool, .int .u64, .int .i64] 6, .tmp 7], .seq (.ops o25_1) (.seq (.seq (.ops o25_4) (.cond (.tmp 27) (.seq (.ops o25_7) (.ret)) (.skip))) (.seq (.seq (.ops o25_12) (.block 0 (.clear zl48 (.loop b25_14)))) (.clear zl49 c25_31)))⟩ [.agg #[.int .i64 x0_0, .int .i64 x0_1], .int .i64 x1, .slice x2 x2n x2c] M =
  (Option.bind (intOf? .i64 (AMem.ld ((M ++ [AObj.cells [.int .i64 x0_0, .int .i64 x0_1] ⟨false, 0⟩]) ++ [AObj.cells [.int .i64 0, .slice none 0 0, .int .i64 0, .bool false, .int .u64 0, .int .i64 0] ⟨false, 0⟩]) (List.length M) 0)) fun x_1 =>
    (Option.bind (intOf? .i64 (AMem.ld ((M ++ [AObj.cells [.int .i64 x0_0, .int .i64 x0_1] ⟨false, 0⟩]) ++ [AObj.cells [.int .i64 0, .slice none 0 0, .int .i64 0, .bool false, .int .u64 0, .int .i64 0] ⟨false, 0⟩]) (List.length M) 1)) fun x_2 =>
    (Option.bind (L.call 6 [.agg #[.int .i64 x_1, .int .i64 x_2]] []) fun r_3 =>
    (Option.bind (boolOf? (some r_3.1)) fun q_4 =>
    (if (!q_4) = true
    then (Option.bind (AMem.wr ((M ++ [AObj.cells [.int .i64 x0_0, .int .i64 x0_1] ⟨false, 0⟩]) ++ [AObj.cells [.int .i64 0, .slice none 0 0, .int .i64 0, .bool false, .int .u64 0, .int .i64 0] ⟨false, 0⟩]) (List.length (M ++ [AObj.cells [.int .i64 x0_0, .int .i64 x0_1] ⟨false, 0⟩])) 0 [.int .i64 0, .slice none 0 0, .int .i64 0, .bool false, .int .u64 0, .int .i64 0]) fun M_5 =>
      (Option.bind (intOf? .i64 (AMem.ld M_5 (List.length (M ++ [AObj.cells [.int .i64 x0_0, .int .i64 x0_1] ⟨false, 0⟩])) 0)) fun x_6 =>
      (Option.bind (sliceOf? (AMem.ld M_5 (List.length (M ++ [AObj.cells [.int .i64 x0_0, .int .i64 x0_1] ⟨false, 0⟩])) 1)) fun s_7 =>
      (Option.bind (intOf? .i64 (AMem.ld M_5 (List.length (M ++ [AObj.cells [.int .i64 x0_0, .int .i64 x0_1] ⟨false, 0⟩])) 2)) fun x_8 =>
      (Option.bind (boolOf? (AMem.ld M_5 (List.length (M ++ [AObj.cells [.int .i64 x0_0, .int .i64 x0_1] ⟨false, 0⟩])) 3)) fun q_9 =>
      (Option.bind (intOf? .u64 (AMem.ld M_5 (List.length (M ++ [AObj.cells [.int .i64 x0_0, .int .i64 x0_1] ⟨false, 0⟩])) 4)) fun x_10 =>
      (Option.bind (intOf? .i64 (AMem.ld M_5 (List.length (M ++ [AObj.cells [.int .i64 x0_0, .int .i64 x0_1] ⟨false, 0⟩])) 5)) fun x_11 =>
      some (.tuple #[.agg #[.int .i64 x_6, .slice s_7.1 s_7.2.1 s_7.2.2, .int .i64 x_8, .bool q_9, .int .u64 x_10, .int .i64 x_11], .bool false], M_5))))))))
    else (if (decide (x1 < 0)) = true
      then (Option.bind (AMem.wr ((M ++ [AObj.cells [.int .i64 x0_0, .int .i64 x0_1] ⟨false, 0⟩]) ++ [AObj.cells [.int .i64 0, .slice none 0 0, .int .i64 0, .bool false, .int .u64 0, .int .i64 0] ⟨false, 0⟩]) (List.length (M ++ [AObj.cells [.int .i64 x0_0, .int .i64 x0_1] ⟨false, 0⟩])) 0 [.int .i64 0, .slice none 0 0, .int .i64 0, .bool false, .int .u64 0, .int .i64 0]) fun M_12 =>
        (Option.bind (intOf? .i64 (AMem.ld M_12 (List.length (M ++ [AObj.cells [.int .i64 x0_0, .int .i64 x0_1] ⟨false, 0⟩])) 0)) fun x_13 =>
        (Option.bind (sliceOf? (AMem.ld M_12 (List.length (M ++ [AObj.cells [.int .i64 x0_0, .int .i64 x0_1] ⟨false, 0⟩])) 1)) fun s_14 =>
        (Option.bind (intOf? .i64 (AMem.ld M_12 (List.length (M ++ [AObj.cells [.int .i64 x0_0, .int .i64 x0_1] ⟨false, 0⟩])) 2)) fun x_15 =>
        (Option.bind (boolOf? (AMem.ld M_12 (List.length (M ++ [AObj.cells [.int .i64 x0_0, .int .i64 x0_1] ⟨false, 0⟩])) 3)) fun q_16 =>
        (Option.bind (intOf? .u64 (AMem.ld M_12 (List.length (M ++ [AObj.cells [.int .i64 x0_0, .int .i64 x0_1] ⟨false, 0⟩])) 4)) fun x_17 =>
        (Option.bind (intOf? .i64 (AMem.ld M_12 (List.length (M ++ [AObj.cells [.int .i64 x0_0, .int .i64 x0_1] ⟨false, 0⟩])) 5)) fun x_18 =>
        some (.tuple #[.agg #[.int .i64 x_13, .slice s_14.1 s_14.2.1 s_14.2.2, .int .i64 x_15, .bool q_16, .int .u64 x_17, .int .i64 x_18], .bool false], M_12))))))))
      else (Option.bind (intOf? .i64 (AMem.ld ((M ++ [AObj.cells [.int .i64 x0_0, .int .i64 x0_1] ⟨false, 0⟩]) ++ [AObj.cells [.int .i64 0, .slice none 0 0, .int .i64 0, .bool false, .int .u64 0, .int .i64 0] ⟨false, 0⟩]) (List.length M) 1)) fun x_19 =>
        (if (decide (x1 ≥ x_19)) = true
        then (Option.bind (AMem.wr ((M ++ [AObj.cells [.int .i64 x0_0, .int .i64 x0_1] ⟨false, 0⟩]) ++ [AObj.cells [.int .i64 0, .slice none 0 0, .int .i64 0, .bool false, .int .u64 0, .int .i64 0] ⟨false, 0⟩]) (List.length (M ++ [AObj.cells [.int .i64 x0_0, .int .i64 x0_1] ⟨false, 0⟩])) 0 [.int .i64 0, .slice none 0 0, .int .i64 0, .bool false, .int .u64 0, .int .i64 0]) fun M_20 =>
          (Option.bind (intOf? .i64 (AMem.ld M_20 (List.length (M ++ [AObj.cells [.int .i64 x0_0, .int .i64 x0_1] ⟨false, 0⟩])) 0)) fun x_21 =>
          (Option.bind (sliceOf? (AMem.ld M_20 (List.length (M ++ [AObj.cells [.int .i64 x0_0, .int .i64 x0_1] ⟨false, 0⟩])) 1)) fun s_22 =>
          (Option.bind (intOf? .i64 (AMem.ld M_20 (List.length (M ++ [AObj.cells [.int .i64 x0_0, .int .i64 x0_1] ⟨false, 0⟩])) 2)) fun x_23 =>
          (Option.bind (boolOf? (AMem.ld M_20 (List.length (M ++ [AObj.cells [.int .i64 x0_0, .int .i64 x0_1] ⟨false, 0⟩])) 3)) fun q_24 =>
          (Option.bind (intOf? .u64 (AMem.ld M_20 (List.length (M ++ [AObj.cells [.int .i64 x0_0, .int .i64 x0_1] ⟨false, 0⟩])) 4)) fun x_25 =>
          (Option.bind (intOf? .i64 (AMem.ld M_20 (List.length (M ++ [AObj.cells [.int .i64 x0_0, .int .i64 x0_1] ⟨false, 0⟩])) 5)) fun x_26 =>
          some (.tuple #[.agg #[.int .i64 x_21, .slice s_22.1 s_22.2.1 s_22.2.2, .int .i64 x_23, .bool q_24, .int .u64 x_25, .int .i64 x_26], .bool false], M_20))))))))
        else (if (decide ((Int.ofNat x2n) > 4096)) = true
          then (Option.bind (AMem.wr ((M ++ [AObj.cells [.int .i64 x0_0, .int .i64 x0_1] ⟨false, 0⟩]) ++ [AObj.cells [.int .i64 0, .slice none 0 0, .int .i64 0, .bool false, .int .u64 0, .int .i64 0] ⟨false, 0⟩]) (List.length (M ++ [AObj.cells [.int .i64 x0_0, .int .i64 x0_1] ⟨false, 0⟩])) 0 [.int .i64 0, .slice none 0 0, .int .i64 0, .bool false, .int .u64 0, .int .i64 0]) fun M_27 =>
            (Option.bind (intOf? .i64 (AMem.ld M_27 (List.length (M ++ [AObj.cells [.int .i64 x0_0, .int .i64 x0_1] ⟨false, 0⟩])) 0)) fun x_28 =>
            (Option.bind (sliceOf? (AMem.ld M_27 (List.length (M ++ [AObj.cells [.int .i64 x0_0, .int .i64 x0_1] ⟨false, 0⟩])) 1)) fun s_29 =>
            (Option.bind (intOf? .i64 (AMem.ld M_27 (List.length (M ++ [AObj.cells [.int .i64 x0_0, .int .i64 x0_1] ⟨false, 0⟩])) 2)) fun x_30 =>
            (Option.bind (boolOf? (AMem.ld M_27 (List.length (M ++ [AObj.cells [.int .i64 x0_0, .int .i64 x0_1] ⟨false, 0⟩])) 3)) fun q_31 =>
            (Option.bind (intOf? .u64 (AMem.ld M_27 (List.length (M ++ [AObj.cells [.int .i64 x0_0, .int .i64 x0_1] ⟨false, 0⟩])) 4)) fun x_32 =>
            (Option.bind (intOf? .i64 (AMem.ld M_27 (List.length (M ++ [AObj.cells [.int .i64 x0_0, .int .i64 x0_1] ⟨false, 0⟩])) 5)) fun x_33 =>
            some (.tuple #[.agg #[.int .i64 x_28, .slice s_29.1 s_29.2.1 s_29.2.2, .int .i64 x_30, .bool q_31, .int .u64 x_32, .int .i64 x_33], .bool false], M_27))))))))
          else P25_14 L x1 x2 x2n x2c (List.length M) (List.length (M ++ [AObj.cells [.int .i64 x0_0, .int .i64 x0_1] ⟨false, 0⟩])) 0 ((M ++ [AObj.cells [.int .i64 x0_0, .int .i64 x0_1] ⟨false, 0⟩]) ++ [AObj.cells [.int .i64 0, .slice none 0 0, .int .i64 0, .bool false, .int .u64 0, .int .i64 0] ⟨false, 0⟩])))))))))) := by
  subst hP25_14; kernel_rfl
theorem E25 (L : Rec) (x0_0 : Int) (x0_1 : Int) (x1 : Int) (x2 : Option Addr) (x2n : Nat) (x2c : Nat) (M : AMem) : enterF L a25 [.agg #[.int .i64 x0_0, .int .i64 x0_1], .int .i64 x1, .slice x2 x2n x2c] M =
  (Option.bind (intOf? .i64 (AMem.ld ((M ++ [AObj.cells [.int .i64 x0_0, .int .i64 x0_1] ⟨false, 0⟩]) ++ [AObj.cells [.int .i64 0, .slice none 0 0, .int .i64 0, .bool false, .int .u64 0, .int .i64 0] ⟨false, 0⟩]) (List.length M) 0)) fun x_1 =>
    (Option.bind (intOf? .i64 (AMem.ld ((M ++ [AObj.cells [.int .i64 x0_0, .int .i64 x0_1] ⟨false, 0⟩]) ++ [AObj.cells [.int .i64 0, .slice none 0 0, .int .i64 0, .bool false, .int .u64 0, .int .i64 0] ⟨false, 0⟩]) (List.length M) 1)) fun x_2 =>
    (Option.bind (L.call 6 [.agg #[.int .i64 x_1, .int .i64 x_2]] []) fun r_3 =>
    (Option.bind (boolOf? (some r_3.1)) fun q_4 =>
    (if (!q_4) = true
    then (Option.bind (AMem.wr ((M ++ [AObj.cells [.int .i64 x0_0, .int .i64 x0_1] ⟨false, 0⟩]) ++ [AObj.cells [.int .i64 0, .slice none 0 0, .int .i64 0, .bool false, .int .u64 0, .int .i64 0] ⟨false, 0⟩]) (List.length (M ++ [AObj.cells [.int .i64 x0_0, .int .i64 x0_1] ⟨false, 0⟩])) 0 [.int .i64 0, .slice none 0 0, .int .i64 0, .bool false, .int .u64 0, .int .i64 0]) fun M_5 =>
      (Option.bind (intOf? .i64 (AMem.ld M_5 (List.length (M ++ [AObj.cells [.int .i64 x0_0, .int .i64 x0_1] ⟨false, 0⟩])) 0)) fun x_6 =>
      (Option.bind (sliceOf? (AMem.ld M_5 (List.length (M ++ [AObj.cells [.int .i64 x0_0, .int .i64 x0_1] ⟨false, 0⟩])) 1)) fun s_7 =>
      (Option.bind (intOf? .i64 (AMem.ld M_5 (List.length (M ++ [AObj.cells [.int .i64 x0_0, .int .i64 x0_1] ⟨false, 0⟩])) 2)) fun x_8 =>
      (Option.bind (boolOf? (AMem.ld M_5 (List.length (M ++ [AObj.cells [.int .i64 x0_0, .int .i64 x0_1] ⟨false, 0⟩])) 3)) fun q_9 =>
      (Option.bind (intOf? .u64 (AMem.ld M_5 (List.length (M ++ [AObj.cells [.int .i64 x0_0, .int .i64 x0_1] ⟨false, 0⟩])) 4)) fun x_10 =>
      (Option.bind (intOf? .i64 (AMem.ld M_5 (List.length (M ++ [AObj.cells [.int .i64 x0_0, .int .i64 x0_1] ⟨false, 0⟩])) 5)) fun x_11 =>
      some (.tuple #[.agg #[.int .i64 x_6, .slice s_7.1 s_7.2.1 s_7.2.2, .int .i64 x_8, .bool q_9, .int .u64 x_10, .int .i64 x_11], .bool false], M_5))))))))
    else (if (decide (x1 < 0)) = true
      then (Option.bind (AMem.wr ((M ++ [AObj.cells [.int .i64 x0_0, .int .i64 x0_1] ⟨false, 0⟩]) ++ [AObj.cells [.int .i64 0, .slice none 0 0, .int .i64 0, .bool false, .int .u64 0, .int .i64 0] ⟨false, 0⟩]) (List.length (M ++ [AObj.cells [.int .i64 x0_0, .int .i64 x0_1] ⟨false, 0⟩])) 0 [.int .i64 0, .slice none 0 0, .int .i64 0, .bool false, .int .u64 0, .int .i64 0]) fun M_12 =>
        (Option.bind (intOf? .i64 (AMem.ld M_12 (List.length (M ++ [AObj.cells [.int .i64 x0_0, .int .i64 x0_1] ⟨false, 0⟩])) 0)) fun x_13 =>
        (Option.bind (sliceOf? (AMem.ld M_12 (List.length (M ++ [AObj.cells [.int .i64 x0_0, .int .i64 x0_1] ⟨false, 0⟩])) 1)) fun s_14 =>
        (Option.bind (intOf? .i64 (AMem.ld M_12 (List.length (M ++ [AObj.cells [.int .i64 x0_0, .int .i64 x0_1] ⟨false, 0⟩])) 2)) fun x_15 =>
        (Option.bind (boolOf? (AMem.ld M_12 (List.length (M ++ [AObj.cells [.int .i64 x0_0, .int .i64 x0_1] ⟨false, 0⟩])) 3)) fun q_16 =>
        (Option.bind (intOf? .u64 (AMem.ld M_12 (List.length (M ++ [AObj.cells [.int .i64 x0_0, .int .i64 x0_1] ⟨false, 0⟩])) 4)) fun x_17 =>
        (Option.bind (intOf? .i64 (AMem.ld M_12 (List.length (M ++ [AObj.cells [.int .i64 x0_0, .int .i64 x0_1] ⟨false, 0⟩])) 5)) fun x_18 =>
        some (.tuple #[.agg #[.int .i64 x_13, .slice s_14.1 s_14.2.1 s_14.2.2, .int .i64 x_15, .bool q_16, .int .u64 x_17, .int .i64 x_18], .bool false], M_12))))))))
      else (Option.bind (intOf? .i64 (AMem.ld ((M ++ [AObj.cells [.int .i64 x0_0, .int .i64 x0_1] ⟨false, 0⟩]) ++ [AObj.cells [.int .i64 0, .slice none 0 0, .int .i64 0, .bool false, .int .u64 0, .int .i64 0] ⟨false, 0⟩]) (List.length M) 1)) fun x_19 =>
        (if (decide (x1 ≥ x_19)) = true
        then (Option.bind (AMem.wr ((M ++ [AObj.cells [.int .i64 x0_0, .int .i64 x0_1] ⟨false, 0⟩]) ++ [AObj.cells [.int .i64 0, .slice none 0 0, .int .i64 0, .bool false, .int .u64 0, .int .i64 0] ⟨false, 0⟩]) (List.length (M ++ [AObj.cells [.int .i64 x0_0, .int .i64 x0_1] ⟨false, 0⟩])) 0 [.int .i64 0, .slice none 0 0, .int .i64 0, .bool false, .int .u64 0, .int .i64 0]) fun M_20 =>
          (Option.bind (intOf? .i64 (AMem.ld M_20 (List.length (M ++ [AObj.cells [.int .i64 x0_0, .int .i64 x0_1] ⟨false, 0⟩])) 0)) fun x_21 =>
          (Option.bind (sliceOf? (AMem.ld M_20 (List.length (M ++ [AObj.cells [.int .i64 x0_0, .int .i64 x0_1] ⟨false, 0⟩])) 1)) fun s_22 =>
          (Option.bind (intOf? .i64 (AMem.ld M_20 (List.length (M ++ [AObj.cells [.int .i64 x0_0, .int .i64 x0_1] ⟨false, 0⟩])) 2)) fun x_23 =>
          (Option.bind (boolOf? (AMem.ld M_20 (List.length (M ++ [AObj.cells [.int .i64 x0_0, .int .i64 x0_1] ⟨false, 0⟩])) 3)) fun q_24 =>
          (Option.bind (intOf? .u64 (AMem.ld M_20 (List.length (M ++ [AObj.cells [.int .i64 x0_0, .int .i64 x0_1] ⟨false, 0⟩])) 4)) fun x_25 =>
          (Option.bind (intOf? .i64 (AMem.ld M_20 (List.length (M ++ [AObj.cells [.int .i64 x0_0, .int .i64 x0_1] ⟨false, 0⟩])) 5)) fun x_26 =>
          some (.tuple #[.agg #[.int .i64 x_21, .slice s_22.1 s_22.2.1 s_22.2.2, .int .i64 x_23, .bool q_24, .int .u64 x_25, .int .i64 x_26], .bool false], M_20))))))))
        else (if (decide ((Int.ofNat x2n) > 4096)) = true
          then (Option.bind (AMem.wr ((M ++ [AObj.cells [.int .i64 x0_0, .int .i64 x0_1] ⟨false, 0⟩]) ++ [AObj.cells [.int .i64 0, .slice none 0 0, .int .i64 0, .bool false, .int .u64 0, .int .i64 0] ⟨false, 0⟩]) (List.length (M ++ [AObj.cells [.int .i64 x0_0, .int .i64 x0_1] ⟨false, 0⟩])) 0 [.int .i64 0, .slice none 0 0, .int .i64 0, .bool false, .int .u64 0, .int .i64 0]) fun M_27 =>
            (Option.bind (intOf? .i64 (AMem.ld M_27 (List.length (M ++ [AObj.cells [.int .i64 x0_0, .int .i64 x0_1] ⟨false, 0⟩])) 0)) fun x_28 =>
            (Option.bind (sliceOf? (AMem.ld M_27 (List.length (M ++ [AObj.cells [.int .i64 x0_0, .int .i64 x0_1] ⟨false, 0⟩])) 1)) fun s_29 =>
            (Option.bind (intOf? .i64 (AMem.ld M_27 (List.length (M ++ [AObj.cells [.int .i64 x0_0, .int .i64 x0_1] ⟨false, 0⟩])) 2)) fun x_30 =>
            (Option.bind (boolOf? (AMem.ld M_27 (List.length (M ++ [AObj.cells [.int .i64 x0_0, .int .i64 x0_1] ⟨false, 0⟩])) 3)) fun q_31 =>
            (Option.bind (intOf? .u64 (AMem.ld M_27 (List.length (M ++ [AObj.cells [.int .i64 x0_0, .int .i64 x0_1] ⟨false, 0⟩])) 4)) fun x_32 =>
            (Option.bind (intOf? .i64 (AMem.ld M_27 (List.length (M ++ [AObj.cells [.int .i64 x0_0, .int .i64 x0_1] ⟨false, 0⟩])) 5)) fun x_33 =>
            some (.tuple #[.agg #[.int .i64 x_28, .slice s_29.1 s_29.2.1 s_29.2.2, .int .i64 x_30, .bool q_31, .int .u64 x_32, .int .i64 x_33], .bool false], M_27))))))))
          else P25_14 L x1 x2 x2n x2c (List.length M) (List.length (M ++ [AObj.cells [.int .i64 x0_0, .int .i64 x0_1] ⟨false, 0⟩])) 0 ((M ++ [AObj.cells [.int .i64 x0_0, .int .i64 x0_1] ⟨false, 0⟩]) ++ [AObj.cells [.int .i64 0, .slice none 0 0, .int .i64 0, .bool false, .int .u64 0, .int .i64 0] ⟨false, 0⟩])))))))))) := QE25 L b25_14 c25_31 P25_14 (Classical.choose_spec XP25_14) x0_0 x0_1 x1 x2 x2n x2c M
/-! #### skylightref33.Adds -/
noncomputable def k48_8 (L : Rec) : KT := blockK 0 (seqK (code L (.clear zl66 c48_36) (retK [.tmp 6])) (retK [.tmp 6]))
def s48_8 (x1 : Int) (x2 : Option Addr) (x2n : Nat) (x2c : Nat) (x3 : Nat) (x7 : Option Addr) (x7n : Nat) (x7c : Nat) (x8 : Int) (M : AMem) : List Value := [junk, .int .i64 x1, .slice x2 x2n x2c, .pointer (some ⟨x3, 0, none⟩), junk, junk, junk, .slice x7 x7n x7c, .int .i64 x8, junk, junk, junk, junk, junk, junk, junk, junk, junk, junk, junk, junk, junk, junk, junk, junk, junk, junk, junk, junk, junk, junk, junk, junk, junk, junk, junk, junk, junk, junk, junk, junk, junk, junk, junk, junk, junk, junk, junk, junk, junk, junk, junk, junk, junk, junk, junk, junk, junk, junk, junk, junk, junk]
theorem XP48_8 : ∃ P : Rec → Int → (Option Addr) → Nat → Nat → Nat → (Option Addr) → Nat → Nat → Int → AMem → Res, P = fun (L : Rec) (x1 : Int) (x2 : Option Addr) (x2n : Nat) (x2c : Nat) (x3 : Nat) (x7 : Option Addr) (x7n : Nat) (x7c : Nat) (x8 : Int) (M : AMem) => L.loop b48_8 (k48_8 L) (s48_8 x1 x2 x2n x2c x3 x7 x7n x7c x8 M) M := ⟨_, rfl⟩
noncomputable def P48_8 : Rec → Int → (Option Addr) → Nat → Nat → Nat → (Option Addr) → Nat → Nat → Int → AMem → Res := Classical.choose XP48_8
noncomputable def k48_20 (L : Rec) : KT := blockK 2 (blockK 1 (seqK (code L (.clear zl65 c48_35) (postK zl65 (loopK L b48_8 (blockK 0 (seqK (code L (.clear zl66 c48_36) (retK [.tmp 6])) (retK [.tmp 6])))))) (postK zl65 (loopK L b48_8 (blockK 0 (seqK (code L (.clear zl66 c48_36) (retK [.tmp 6])) (retK [.tmp 6])))))))
def s48_20 (x1 : Int) (x2 : Option Addr) (x2n : Nat) (x2c : Nat) (x3 : Nat) (x7 : Option Addr) (x7n : Nat) (x7c : Nat) (x8 : Int) (x9 : Int) (M : AMem) : List Value := [junk, .int .i64 x1, .slice x2 x2n x2c, .pointer (some ⟨x3, 0, none⟩), junk, junk, junk, .slice x7 x7n x7c, .int .i64 x8, .int .i64 x9, junk, junk, junk, junk, junk, junk, junk, junk, junk, junk, junk, junk, junk, junk, junk, junk, junk, junk, junk, junk, junk, junk, junk, junk, junk, junk, junk, junk, junk, junk, junk, junk, junk, junk, junk, junk, junk, junk, junk, junk, junk, junk, junk, junk, junk, junk, junk, junk, junk, junk, junk, junk]
theorem XP48_20 : ∃ P : Rec → Int → (Option Addr) → Nat → Nat → Nat → (Option Addr) → Nat → Nat → Int → Int → AMem → Res, P = fun (L : Rec) (x1 : Int) (x2 : Option Addr) (x2n : Nat) (x2c : Nat) (x3 : Nat) (x7 : Option Addr) (x7n : Nat) (x7c : Nat) (x8 : Int) (x9 : Int) (M : AMem) => L.loop b48_20 (k48_20 L) (s48_20 x1 x2 x2n x2c x3 x7 x7n x7c x8 x9 M) M := ⟨_, rfl⟩
noncomputable def P48_20 : Rec → Int → (Option Addr) → Nat → Nat → Nat → (Option Addr) → Nat → Nat → Int → Int → AMem → Res := Classical.choose XP48_20
noncomputable def k48_36 (L : Rec) : KT := retK [.tmp 6]
def s48_36 (x1 : Int) (x3 : Nat) (x7 : Option Addr) (x7n : Nat) (x7c : Nat) (M : AMem) : List Value := [junk, .int .i64 x1, junk, .pointer (some ⟨x3, 0, none⟩), junk, junk, junk, .slice x7 x7n x7c, junk, junk, junk, junk, junk, junk, junk, junk, junk, junk, junk, junk, junk, junk, junk, junk, junk, junk, junk, junk, junk, junk, junk, junk, junk, junk, junk, junk, junk, junk, junk, junk, junk, junk, junk, junk, junk, junk, junk, junk, junk, junk, junk, junk, junk, junk, junk, junk, junk, junk, junk, junk, junk, junk]
theorem XP48_36 : ∃ P : Rec → Int → Nat → (Option Addr) → Nat → Nat → AMem → Res, P = fun (L : Rec) (x1 : Int) (x3 : Nat) (x7 : Option Addr) (x7n : Nat) (x7c : Nat) (M : AMem) => code L c48_36 (k48_36 L) (s48_36 x1 x3 x7 x7n x7c M) M := ⟨_, rfl⟩
noncomputable def P48_36 : Rec → Int → Nat → (Option Addr) → Nat → Nat → AMem → Res := Classical.choose XP48_36
noncomputable def k48_34 (L : Rec) : KT := postK zl64 (loopK L b48_20 (blockK 2 (blockK 1 (seqK (code L (.clear zl65 c48_35) (postK zl65 (loopK L b48_8 (blockK 0 (seqK (code L (.clear zl66 c48_36) (retK [.tmp 6])) (retK [.tmp 6])))))) (postK zl65 (loopK L b48_8 (blockK 0 (seqK (code L (.clear zl66 c48_36) (retK [.tmp 6])) (retK [.tmp 6])))))))))
def s48_34 (x1 : Int) (x2 : Option Addr) (x2n : Nat) (x2c : Nat) (x3 : Nat) (x7 : Option Addr) (x7n : Nat) (x7c : Nat) (x8 : Int) (x9 : Int) (M : AMem) : List Value := [junk, .int .i64 x1, .slice x2 x2n x2c, .pointer (some ⟨x3, 0, none⟩), junk, junk, junk, .slice x7 x7n x7c, .int .i64 x8, .int .i64 x9, junk, junk, junk, junk, junk, junk, junk, junk, junk, junk, junk, junk, junk, junk, junk, junk, junk, junk, junk, junk, junk, junk, junk, junk, junk, junk, junk, junk, junk, junk, junk, junk, junk, junk, junk, junk, junk, junk, junk, junk, junk, junk, junk, junk, junk, junk, junk, junk, junk, junk, junk, junk]
theorem XP48_34 : ∃ P : Rec → Int → (Option Addr) → Nat → Nat → Nat → (Option Addr) → Nat → Nat → Int → Int → AMem → Res, P = fun (L : Rec) (x1 : Int) (x2 : Option Addr) (x2n : Nat) (x2c : Nat) (x3 : Nat) (x7 : Option Addr) (x7n : Nat) (x7c : Nat) (x8 : Int) (x9 : Int) (M : AMem) => code L c48_34 (k48_34 L) (s48_34 x1 x2 x2n x2c x3 x7 x7n x7c x8 x9 M) M := ⟨_, rfl⟩
noncomputable def P48_34 : Rec → Int → (Option Addr) → Nat → Nat → Nat → (Option Addr) → Nat → Nat → Int → Int → AMem → Res := Classical.choose XP48_34
noncomputable def k48_35 (L : Rec) : KT := postK zl65 (loopK L b48_8 (blockK 0 (seqK (code L (.clear zl66 c48_36) (retK [.tmp 6])) (retK [.tmp 6]))))
def s48_35 (x1 : Int) (x2 : Option Addr) (x2n : Nat) (x2c : Nat) (x3 : Nat) (x7 : Option Addr) (x7n : Nat) (x7c : Nat) (x8 : Int) (M : AMem) : List Value := [junk, .int .i64 x1, .slice x2 x2n x2c, .pointer (some ⟨x3, 0, none⟩), junk, junk, junk, .slice x7 x7n x7c, .int .i64 x8, junk, junk, junk, junk, junk, junk, junk, junk, junk, junk, junk, junk, junk, junk, junk, junk, junk, junk, junk, junk, junk, junk, junk, junk, junk, junk, junk, junk, junk, junk, junk, junk, junk, junk, junk, junk, junk, junk, junk, junk, junk, junk, junk, junk, junk, junk, junk, junk, junk, junk, junk, junk, junk]
theorem XP48_35 : ∃ P : Rec → Int → (Option Addr) → Nat → Nat → Nat → (Option Addr) → Nat → Nat → Int → AMem → Res, P = fun (L : Rec) (x1 : Int) (x2 : Option Addr) (x2n : Nat) (x2c : Nat) (x3 : Nat) (x7 : Option Addr) (x7n : Nat) (x7c : Nat) (x8 : Int) (M : AMem) => code L c48_35 (k48_35 L) (s48_35 x1 x2 x2n x2c x3 x7 x7n x7c x8 M) M := ⟨_, rfl⟩
noncomputable def P48_35 : Rec → Int → (Option Addr) → Nat → Nat → Nat → (Option Addr) → Nat → Nat → Int → AMem → Res := Classical.choose XP48_35
theorem QP48_8_eq (L : Rec) (b48_20 b48_8 c48_35 c48_36 : ACode) (hb : ∀ K t A, L.loop b48_8 K t A = code L (.post (.seq (.seq (.ops o48_11) (.cond (.tmp 19) (.skip) (.exit 0))) (.seq (.block 1 (.seq (.ops o48_18) (.block 2 (.clear zl64 (.loop b48_20))))) (.clear zl65 c48_35))) zl65) (loopK L b48_8 K) t A) (P48_8 : Rec → Int → (Option Addr) → Nat → Nat → Nat → (Option Addr) → Nat → Nat → Int → AMem → Res) (hP48_8 : Eq P48_8 fun L x1 x2 x2n x2c x3 x7 x7n x7c x8 M => L.loop b48_8 (blockK 0 (seqK (code L (.clear zl66 c48_36) (retK [.tmp 6])) (retK [.tmp 6]))) (s48_8 x1 x2 x2n x2c x3 x7 x7n x7c x8 M) M) (P48_20 : Rec → Int → (Option Addr) → Nat → Nat → Nat → (Option Addr) → Nat → Nat → Int → Int → AMem → Res) (hP48_20 : Eq P48_20 fun L x1 x2 x2n x2c x3 x7 x7n x7c x8 x9 M => L.loop b48_20 (blockK 2 (blockK 1 (seqK (code L (.clear zl65 c48_35) (postK zl65 (loopK L b48_8 (blockK 0 (seqK (code L (.clear zl66 c48_36) (retK [.tmp 6])) (retK [.tmp 6])))))) (postK zl65 (loopK L b48_8 (blockK 0 (seqK (code L (.clear zl66 c48_36) (retK [.tmp 6])) (retK [.tmp 6])))))))) (s48_20 x1 x2 x2n x2c x3 x7 x7n x7c x8 x9 M) M) (P48_36 : Rec → Int → Nat → (Option Addr) → Nat → Nat → AMem → Res) (hP48_36 : Eq P48_36 fun L x1 x3 x7 x7n x7c M => code L c48_36 (retK [.tmp 6]) (s48_36 x1 x3 x7 x7n x7c M) M) (x1 : Int) (x2 : Option Addr) (x2n : Nat) (x2c : Nat) (x3 : Nat) (x7 : Option Addr) (x7n : Nat) (x7c : Nat) (x8 : Int) (M : AMem) : P48_8 L x1 x2 x2n x2c x3 x7 x7n x7c x8 M =
  (if (decide (x8 < (Int.ofNat x2n))) = true
    then P48_20 L x1 x2 x2n x2c x3 x7 x7n x7c x8 0 M
    else P48_36 L x1 x3 x7 x7n x7c M) := by
  subst hP48_8; subst hP48_20; subst hP48_36; exact (hb (blockK 0 (seqK (code L (.clear zl66 c48_36) (retK [.tmp 6])) (retK [.tmp 6]))) (s48_8 x1 x2 x2n x2c x3 x7 x7n x7c x8 M) M).trans (by kernel_rfl)
theorem P48_8_eq (L : Rec) (hL : ∀ b K t A, L.loop b K t A = code L b (loopK L b K) t A) (x1 : Int) (x2 : Option Addr) (x2n : Nat) (x2c : Nat) (x3 : Nat) (x7 : Option Addr) (x7n : Nat) (x7c : Nat) (x8 : Int) (M : AMem) : P48_8 L x1 x2 x2n x2c x3 x7 x7n x7c x8 M =
  (if (decide (x8 < (Int.ofNat x2n))) = true
    then P48_20 L x1 x2 x2n x2c x3 x7 x7n x7c x8 0 M
    else P48_36 L x1 x3 x7 x7n x7c M) := QP48_8_eq L b48_20 b48_8 c48_35 c48_36 (hL b48_8) P48_8 (Classical.choose_spec XP48_8) P48_20 (Classical.choose_spec XP48_20) P48_36 (Classical.choose_spec XP48_36) x1 x2 x2n x2c x3 x7 x7n x7c x8 M
theorem QP48_20_eq (L : Rec) (b48_20 b48_8 c48_34 c48_35 c48_36 : ACode) (hb : ∀ K t A, L.loop b48_20 K t A = code L (.post (.seq (.seq (.ops o48_23) (.cond (.tmp 23) (.skip) (.exit 2))) (.seq (.block 3 (.seq (.ops o48_30) (.cond (.tmp 33) (.draw [] 0 o48_32 []) (.skip)))) (.clear zl64 c48_34))) zl64) (loopK L b48_20 K) t A) (P48_20 : Rec → Int → (Option Addr) → Nat → Nat → Nat → (Option Addr) → Nat → Nat → Int → Int → AMem → Res) (hP48_20 : Eq P48_20 fun L x1 x2 x2n x2c x3 x7 x7n x7c x8 x9 M => L.loop b48_20 (blockK 2 (blockK 1 (seqK (code L (.clear zl65 c48_35) (postK zl65 (loopK L b48_8 (blockK 0 (seqK (code L (.clear zl66 c48_36) (retK [.tmp 6])) (retK [.tmp 6])))))) (postK zl65 (loopK L b48_8 (blockK 0 (seqK (code L (.clear zl66 c48_36) (retK [.tmp 6])) (retK [.tmp 6])))))))) (s48_20 x1 x2 x2n x2c x3 x7 x7n x7c x8 x9 M) M) (P48_34 : Rec → Int → (Option Addr) → Nat → Nat → Nat → (Option Addr) → Nat → Nat → Int → Int → AMem → Res) (hP48_34 : Eq P48_34 fun L x1 x2 x2n x2c x3 x7 x7n x7c x8 x9 M => code L c48_34 (postK zl64 (loopK L b48_20 (blockK 2 (blockK 1 (seqK (code L (.clear zl65 c48_35) (postK zl65 (loopK L b48_8 (blockK 0 (seqK (code L (.clear zl66 c48_36) (retK [.tmp 6])) (retK [.tmp 6])))))) (postK zl65 (loopK L b48_8 (blockK 0 (seqK (code L (.clear zl66 c48_36) (retK [.tmp 6])) (retK [.tmp 6])))))))))) (s48_34 x1 x2 x2n x2c x3 x7 x7n x7c x8 x9 M) M) (P48_35 : Rec → Int → (Option Addr) → Nat → Nat → Nat → (Option Addr) → Nat → Nat → Int → AMem → Res) (hP48_35 : Eq P48_35 fun L x1 x2 x2n x2c x3 x7 x7n x7c x8 M => code L c48_35 (postK zl65 (loopK L b48_8 (blockK 0 (seqK (code L (.clear zl66 c48_36) (retK [.tmp 6])) (retK [.tmp 6]))))) (s48_35 x1 x2 x2n x2c x3 x7 x7n x7c x8 M) M) (x1 : Int) (x2 : Option Addr) (x2n : Nat) (x2c : Nat) (x3 : Nat) (x7 : Option Addr) (x7n : Nat) (x7c : Nat) (x8 : Int) (x9 : Int) (M : AMem) : P48_20 L x1 x2 x2n x2c x3 x7 x7n x7c x8 x9 M =
  (if (decide (x9 < 3)) = true
    then (match x2 with
      | some a_1 => (if (0 : Int) ≤ x8 ∧ x8 < (Int.ofNat x2n)
        then (if (0 : Int) ≤ x9 ∧ x9 < 3
          then (Option.bind (intOf? .u64 (AMem.ld M a_1.block (((a_1.off + ((Int.toNat x8) * 4)) + 1) + ((Int.toNat x9) * 1)))) fun x_2 =>
            (if (x_2 != 0) = true
            then (Option.bind (intOf? .i64 (AMem.ld M x3 0)) fun x_3 =>
              (Option.bind (intOf? .i64 (AMem.ld M x3 1)) fun x_4 =>
              (match x2 with
              | some a_5 => (if (0 : Int) ≤ x8 ∧ x8 < (Int.ofNat x2n)
                then (Option.bind (intOf? .i64 (AMem.ld M a_5.block (a_5.off + ((Int.toNat x8) * 4)))) fun x_6 =>
                  (Option.bind (L.call 59 [.agg #[.int .i64 x_3, .int .i64 x_4], .agg #[.int .i64 4, .int .i64 x_6, .int .i64 x9]] []) fun r_7 =>
                  (Option.bind (intOf? .i64 (some r_7.1)) fun x_8 =>
                  (match x2 with
                  | some a_9 => (if (0 : Int) ≤ x8 ∧ x8 < (Int.ofNat x2n)
                    then (if (0 : Int) ≤ x9 ∧ x9 < 3
                      then (Option.bind (intOf? .u64 (AMem.ld M a_9.block (((a_9.off + ((Int.toNat x8) * 4)) + 1) + ((Int.toNat x9) * 1)))) fun x_10 =>
                        (Option.bind (rowOf (M ++ [AObj.cells [.int .i64 x_8, .int .u64 x_10] ⟨false, 0⟩]) 2 (.slice (some ⟨(List.length M), 0, none⟩) 1 2)) fun row_11 =>
                        (appendK 2 16 x7 x7n x7c 1 row_11 (M ++ [AObj.cells [.int .i64 x_8, .int .u64 x_10] ⟨false, 0⟩]) fun p_12 n_13 c_14 M_15 =>
                        P48_34 L x1 x2 x2n x2c x3 p_12 n_13 c_14 x8 x9 M_15)))
                      else none)
                    else none)
                  | none => none))))
                else none)
              | none => none)))
            else P48_34 L x1 x2 x2n x2c x3 x7 x7n x7c x8 x9 M))
          else none)
        else none)
      | none => none)
    else P48_35 L x1 x2 x2n x2c x3 x7 x7n x7c x8 M) := by
  subst hP48_20; subst hP48_34; subst hP48_35; exact (hb (blockK 2 (blockK 1 (seqK (code L (.clear zl65 c48_35) (postK zl65 (loopK L b48_8 (blockK 0 (seqK (code L (.clear zl66 c48_36) (retK [.tmp 6])) (retK [.tmp 6])))))) (postK zl65 (loopK L b48_8 (blockK 0 (seqK (code L (.clear zl66 c48_36) (retK [.tmp 6])) (retK [.tmp 6])))))))) (s48_20 x1 x2 x2n x2c x3 x7 x7n x7c x8 x9 M) M).trans (by kernel_rfl)
theorem P48_20_eq (L : Rec) (hL : ∀ b K t A, L.loop b K t A = code L b (loopK L b K) t A) (x1 : Int) (x2 : Option Addr) (x2n : Nat) (x2c : Nat) (x3 : Nat) (x7 : Option Addr) (x7n : Nat) (x7c : Nat) (x8 : Int) (x9 : Int) (M : AMem) : P48_20 L x1 x2 x2n x2c x3 x7 x7n x7c x8 x9 M =
  (if (decide (x9 < 3)) = true
    then (match x2 with
      | some a_1 => (if (0 : Int) ≤ x8 ∧ x8 < (Int.ofNat x2n)
        then (if (0 : Int) ≤ x9 ∧ x9 < 3
          then (Option.bind (intOf? .u64 (AMem.ld M a_1.block (((a_1.off + ((Int.toNat x8) * 4)) + 1) + ((Int.toNat x9) * 1)))) fun x_2 =>
            (if (x_2 != 0) = true
            then (Option.bind (intOf? .i64 (AMem.ld M x3 0)) fun x_3 =>
              (Option.bind (intOf? .i64 (AMem.ld M x3 1)) fun x_4 =>
              (match x2 with
              | some a_5 => (if (0 : Int) ≤ x8 ∧ x8 < (Int.ofNat x2n)
                then (Option.bind (intOf? .i64 (AMem.ld M a_5.block (a_5.off + ((Int.toNat x8) * 4)))) fun x_6 =>
                  (Option.bind (L.call 59 [.agg #[.int .i64 x_3, .int .i64 x_4], .agg #[.int .i64 4, .int .i64 x_6, .int .i64 x9]] []) fun r_7 =>
                  (Option.bind (intOf? .i64 (some r_7.1)) fun x_8 =>
                  (match x2 with
                  | some a_9 => (if (0 : Int) ≤ x8 ∧ x8 < (Int.ofNat x2n)
                    then (if (0 : Int) ≤ x9 ∧ x9 < 3
                      then (Option.bind (intOf? .u64 (AMem.ld M a_9.block (((a_9.off + ((Int.toNat x8) * 4)) + 1) + ((Int.toNat x9) * 1)))) fun x_10 =>
                        (Option.bind (rowOf (M ++ [AObj.cells [.int .i64 x_8, .int .u64 x_10] ⟨false, 0⟩]) 2 (.slice (some ⟨(List.length M), 0, none⟩) 1 2)) fun row_11 =>
                        (appendK 2 16 x7 x7n x7c 1 row_11 (M ++ [AObj.cells [.int .i64 x_8, .int .u64 x_10] ⟨false, 0⟩]) fun p_12 n_13 c_14 M_15 =>
                        P48_34 L x1 x2 x2n x2c x3 p_12 n_13 c_14 x8 x9 M_15)))
                      else none)
                    else none)
                  | none => none))))
                else none)
              | none => none)))
            else P48_34 L x1 x2 x2n x2c x3 x7 x7n x7c x8 x9 M))
          else none)
        else none)
      | none => none)
    else P48_35 L x1 x2 x2n x2c x3 x7 x7n x7c x8 M) := QP48_20_eq L b48_20 b48_8 c48_34 c48_35 c48_36 (hL b48_20) P48_20 (Classical.choose_spec XP48_20) P48_34 (Classical.choose_spec XP48_34) P48_35 (Classical.choose_spec XP48_35) x1 x2 x2n x2c x3 x7 x7n x7c x8 x9 M
theorem QP48_36_eq (L : Rec) (P48_36 : Rec → Int → Nat → (Option Addr) → Nat → Nat → AMem → Res) (hP48_36 : Eq P48_36 fun L x1 x3 x7 x7n x7c M => code L (.seq (.ops o48_37) (.ret)) (retK [.tmp 6]) (s48_36 x1 x3 x7 x7n x7c M) M) (x1 : Int) (x3 : Nat) (x7 : Option Addr) (x7n : Nat) (x7c : Nat) (M : AMem) : P48_36 L x1 x3 x7 x7n x7c M =
  (Option.bind (intOf? .i64 (AMem.ld M x3 0)) fun x_1 =>
    (Option.bind (intOf? .i64 (AMem.ld M x3 1)) fun x_2 =>
    (Option.bind (L.call 59 [.agg #[.int .i64 x_1, .int .i64 x_2], .agg #[.int .i64 3, .int .i64 x1, .int .i64 0]] []) fun r_3 =>
    (Option.bind (intOf? .i64 (some r_3.1)) fun x_4 =>
    (Option.bind (rowOf (M ++ [AObj.cells [.int .i64 x_4, .int .u64 1] ⟨false, 0⟩]) 2 (.slice (some ⟨(List.length M), 0, none⟩) 1 2)) fun row_5 =>
    (appendK 2 16 x7 x7n x7c 1 row_5 (M ++ [AObj.cells [.int .i64 x_4, .int .u64 1] ⟨false, 0⟩]) fun p_6 n_7 c_8 M_9 =>
    some (.slice p_6 n_7 c_8, M_9))))))) := by
  subst hP48_36; kernel_rfl
theorem P48_36_eq (L : Rec) (x1 : Int) (x3 : Nat) (x7 : Option Addr) (x7n : Nat) (x7c : Nat) (M : AMem) : P48_36 L x1 x3 x7 x7n x7c M =
  (Option.bind (intOf? .i64 (AMem.ld M x3 0)) fun x_1 =>
    (Option.bind (intOf? .i64 (AMem.ld M x3 1)) fun x_2 =>
    (Option.bind (L.call 59 [.agg #[.int .i64 x_1, .int .i64 x_2], .agg #[.int .i64 3, .int .i64 x1, .int .i64 0]] []) fun r_3 =>
    (Option.bind (intOf? .i64 (some r_3.1)) fun x_4 =>
    (Option.bind (rowOf (M ++ [AObj.cells [.int .i64 x_4, .int .u64 1] ⟨false, 0⟩]) 2 (.slice (some ⟨(List.length M), 0, none⟩) 1 2)) fun row_5 =>
    (appendK 2 16 x7 x7n x7c 1 row_5 (M ++ [AObj.cells [.int .i64 x_4, .int .u64 1] ⟨false, 0⟩]) fun p_6 n_7 c_8 M_9 =>
    some (.slice p_6 n_7 c_8, M_9))))))) := QP48_36_eq L P48_36 (Classical.choose_spec XP48_36) x1 x3 x7 x7n x7c M
theorem QP48_34_eq (L : Rec) (b48_20 b48_8 c48_35 c48_36 : ACode) (P48_20 : Rec → Int → (Option Addr) → Nat → Nat → Nat → (Option Addr) → Nat → Nat → Int → Int → AMem → Res) (hP48_20 : Eq P48_20 fun L x1 x2 x2n x2c x3 x7 x7n x7c x8 x9 M => L.loop b48_20 (blockK 2 (blockK 1 (seqK (code L (.clear zl65 c48_35) (postK zl65 (loopK L b48_8 (blockK 0 (seqK (code L (.clear zl66 c48_36) (retK [.tmp 6])) (retK [.tmp 6])))))) (postK zl65 (loopK L b48_8 (blockK 0 (seqK (code L (.clear zl66 c48_36) (retK [.tmp 6])) (retK [.tmp 6])))))))) (s48_20 x1 x2 x2n x2c x3 x7 x7n x7c x8 x9 M) M) (P48_34 : Rec → Int → (Option Addr) → Nat → Nat → Nat → (Option Addr) → Nat → Nat → Int → Int → AMem → Res) (hP48_34 : Eq P48_34 fun L x1 x2 x2n x2c x3 x7 x7n x7c x8 x9 M => code L (.ops o48_34) (postK zl64 (loopK L b48_20 (blockK 2 (blockK 1 (seqK (code L (.clear zl65 c48_35) (postK zl65 (loopK L b48_8 (blockK 0 (seqK (code L (.clear zl66 c48_36) (retK [.tmp 6])) (retK [.tmp 6])))))) (postK zl65 (loopK L b48_8 (blockK 0 (seqK (code L (.clear zl66 c48_36) (retK [.tmp 6])) (retK [.tmp 6])))))))))) (s48_34 x1 x2 x2n x2c x3 x7 x7n x7c x8 x9 M) M) (x1 : Int) (x2 : Option Addr) (x2n : Nat) (x2c : Nat) (x3 : Nat) (x7 : Option Addr) (x7n : Nat) (x7c : Nat) (x8 : Int) (x9 : Int) (M : AMem) : P48_34 L x1 x2 x2n x2c x3 x7 x7n x7c x8 x9 M =
  P48_20 L x1 x2 x2n x2c x3 x7 x7n x7c x8 (IntKind.wrap .i64 (x9 + 1)) M := by
  subst hP48_20; subst hP48_34; kernel_rfl
theorem P48_34_eq (L : Rec) (x1 : Int) (x2 : Option Addr) (x2n : Nat) (x2c : Nat) (x3 : Nat) (x7 : Option Addr) (x7n : Nat) (x7c : Nat) (x8 : Int) (x9 : Int) (M : AMem) : P48_34 L x1 x2 x2n x2c x3 x7 x7n x7c x8 x9 M =
  P48_20 L x1 x2 x2n x2c x3 x7 x7n x7c x8 (IntKind.wrap .i64 (x9 + 1)) M := QP48_34_eq L b48_20 b48_8 c48_35 c48_36 P48_20 (Classical.choose_spec XP48_20) P48_34 (Classical.choose_spec XP48_34) x1 x2 x2n x2c x3 x7 x7n x7c x8 x9 M
theorem QP48_35_eq (L : Rec) (b48_8 c48_36 : ACode) (P48_8 : Rec → Int → (Option Addr) → Nat → Nat → Nat → (Option Addr) → Nat → Nat → Int → AMem → Res) (hP48_8 : Eq P48_8 fun L x1 x2 x2n x2c x3 x7 x7n x7c x8 M => L.loop b48_8 (blockK 0 (seqK (code L (.clear zl66 c48_36) (retK [.tmp 6])) (retK [.tmp 6]))) (s48_8 x1 x2 x2n x2c x3 x7 x7n x7c x8 M) M) (P48_35 : Rec → Int → (Option Addr) → Nat → Nat → Nat → (Option Addr) → Nat → Nat → Int → AMem → Res) (hP48_35 : Eq P48_35 fun L x1 x2 x2n x2c x3 x7 x7n x7c x8 M => code L (.ops o48_35) (postK zl65 (loopK L b48_8 (blockK 0 (seqK (code L (.clear zl66 c48_36) (retK [.tmp 6])) (retK [.tmp 6]))))) (s48_35 x1 x2 x2n x2c x3 x7 x7n x7c x8 M) M) (x1 : Int) (x2 : Option Addr) (x2n : Nat) (x2c : Nat) (x3 : Nat) (x7 : Option Addr) (x7n : Nat) (x7c : Nat) (x8 : Int) (M : AMem) : P48_35 L x1 x2 x2n x2c x3 x7 x7n x7c x8 M =
  P48_8 L x1 x2 x2n x2c x3 x7 x7n x7c (IntKind.wrap .i64 (x8 + 1)) M := by
  subst hP48_8; subst hP48_35; kernel_rfl
theorem P48_35_eq (L : Rec) (x1 : Int) (x2 : Option Addr) (x2n : Nat) (x2c : Nat) (x3 : Nat) (x7 : Option Addr) (x7n : Nat) (x7c : Nat) (x8 : Int) (M : AMem) : P48_35 L x1 x2 x2n x2c x3 x7 x7n x7c x8 M =
  P48_8 L x1 x2 x2n x2c x3 x7 x7n x7c (IntKind.wrap .i64 (x8 + 1)) M := QP48_35_eq L b48_8 c48_36 P48_8 (Classical.choose_spec XP48_8) P48_35 (Classical.choose_spec XP48_35) x1 x2 x2n x2c x3 x7 x7n x7c x8 M
theorem QE48 (L : Rec) (b48_8 c48_36 : ACode) (P48_8 : Rec → Int → (Option Addr) → Nat → Nat → Nat → (Option Addr) → Nat → Nat → Int → AMem → Res) (hP48_8 : Eq P48_8 fun L x1 x2 x2n x2c x3 x7 x7n x7c x8 M => L.loop b48_8 (blockK 0 (seqK (code L (.clear zl66 c48_36) (retK [.tmp 6])) (retK [.tmp 6]))) (s48_8 x1 x2 x2n x2c x3 x7 x7n x7c x8 M) M) (x0_0 : Int) (x0_1 : Int) (x1 : Int) (x2 : Option Addr) (x2n : Nat) (x2c : Nat) (M : AMem) : enterF L ⟨62, [.tmp 6], .seq (.ops o48_1) (.seq (.ops o48_3) (.seq (.seq (.ops o48_6) (.block 0 (.clear zl65 (.loop b48_8)))) (.clear zl66 c48_36)))⟩ [.agg #[.int .i64 x0_0, .int .i64 x0_1], .int .i64 x1, .slice x2 x2n x2c] M =
  (Option.bind (intOf? .i64 (AMem.ld (M ++ [AObj.cells [.int .i64 x0_0, .int .i64 x0_1] ⟨false, 0⟩]) (List.length M) 0)) fun x_1 =>
    (Option.bind (intOf? .i64 (AMem.ld (M ++ [AObj.cells [.int .i64 x0_0, .int .i64 x0_1] ⟨false, 0⟩]) (List.length M) 1)) fun x_2 =>
    (Option.bind (L.call 59 [.agg #[.int .i64 x_1, .int .i64 x_2], .agg #[.int .i64 2, .int .i64 x1, .int .i64 0]] []) fun r_3 =>
    (Option.bind (intOf? .i64 (some r_3.1)) fun x_4 =>
    P48_8 L x1 x2 x2n x2c (List.length M) (some ⟨(List.length (M ++ [AObj.cells [.int .i64 x0_0, .int .i64 x0_1] ⟨false, 0⟩])), 0, none⟩) 1 2 0 ((M ++ [AObj.cells [.int .i64 x0_0, .int .i64 x0_1] ⟨false, 0⟩]) ++ [AObj.cells [.int .i64 x_4, .int .u64 1] ⟨false, 0⟩]))))) := by
  subst hP48_8; kernel_rfl
theorem E48 (L : Rec) (x0_0 : Int) (x0_1 : Int) (x1 : Int) (x2 : Option Addr) (x2n : Nat) (x2c : Nat) (M : AMem) : enterF L a48 [.agg #[.int .i64 x0_0, .int .i64 x0_1], .int .i64 x1, .slice x2 x2n x2c] M =
  (Option.bind (intOf? .i64 (AMem.ld (M ++ [AObj.cells [.int .i64 x0_0, .int .i64 x0_1] ⟨false, 0⟩]) (List.length M) 0)) fun x_1 =>
    (Option.bind (intOf? .i64 (AMem.ld (M ++ [AObj.cells [.int .i64 x0_0, .int .i64 x0_1] ⟨false, 0⟩]) (List.length M) 1)) fun x_2 =>
    (Option.bind (L.call 59 [.agg #[.int .i64 x_1, .int .i64 x_2], .agg #[.int .i64 2, .int .i64 x1, .int .i64 0]] []) fun r_3 =>
    (Option.bind (intOf? .i64 (some r_3.1)) fun x_4 =>
    P48_8 L x1 x2 x2n x2c (List.length M) (some ⟨(List.length (M ++ [AObj.cells [.int .i64 x0_0, .int .i64 x0_1] ⟨false, 0⟩])), 0, none⟩) 1 2 0 ((M ++ [AObj.cells [.int .i64 x0_0, .int .i64 x0_1] ⟨false, 0⟩]) ++ [AObj.cells [.int .i64 x_4, .int .u64 1] ⟨false, 0⟩]))))) := QE48 L b48_8 c48_36 P48_8 (Classical.choose_spec XP48_8) x0_0 x0_1 x1 x2 x2n x2c M
/-! #### skylightref33.Flush.Step -/
noncomputable def k26_31 (L : Rec) : KT := seqK (code L (.clear zl51 c26_34) (retK [.tmp 4])) (retK [.tmp 4])
def s26_31 (x0 : Option Addr) (x69 : Bool) (M : AMem) : List Value := [.pointer x0, junk, junk, junk, junk, junk, junk, junk, junk, junk, junk, junk, junk, junk, junk, junk, junk, junk, junk, junk, junk, junk, junk, junk, junk, junk, junk, junk, junk, junk, junk, junk, junk, junk, junk, junk, junk, junk, junk, junk, junk, junk, junk, junk, junk, junk, junk, junk, junk, junk, junk, junk, junk, junk, junk, junk, junk, junk, junk, junk, junk, junk, junk, junk, junk, junk, junk, junk, junk, .bool x69, junk, junk, junk, junk, junk, junk, junk, junk, junk, junk, junk, junk, junk, junk, junk]
theorem XP26_31 : ∃ P : Rec → (Option Addr) → Bool → AMem → Res, P = fun (L : Rec) (x0 : Option Addr) (x69 : Bool) (M : AMem) => code L c26_31 (k26_31 L) (s26_31 x0 x69 M) M := ⟨_, rfl⟩
noncomputable def P26_31 : Rec → (Option Addr) → Bool → AMem → Res := Classical.choose XP26_31
noncomputable def k26_34 (L : Rec) : KT := retK [.tmp 4]
def s26_34 (M : AMem) : List Value := [junk, junk, junk, junk, junk, junk, junk, junk, junk, junk, junk, junk, junk, junk, junk, junk, junk, junk, junk, junk, junk, junk, junk, junk, junk, junk, junk, junk, junk, junk, junk, junk, junk, junk, junk, junk, junk, junk, junk, junk, junk, junk, junk, junk, junk, junk, junk, junk, junk, junk, junk, junk, junk, junk, junk, junk, junk, junk, junk, junk, junk, junk, junk, junk, junk, junk, junk, junk, junk, junk, junk, junk, junk, junk, junk, junk, junk, junk, junk, junk, junk, junk, junk, junk, junk]
theorem XP26_34 : ∃ P : Rec → AMem → Res, P = fun (L : Rec) (M : AMem) => code L c26_34 (k26_34 L) (s26_34 M) M := ⟨_, rfl⟩
noncomputable def P26_34 : Rec → AMem → Res := Classical.choose XP26_34
theorem QP26_31_eq (L : Rec) (c26_34 : ACode) (P26_31 : Rec → (Option Addr) → Bool → AMem → Res) (hP26_31 : Eq P26_31 fun L x0 x69 M => code L (.cond (.tmp 69) (.ops o26_32) (.ops o26_33)) (seqK (code L (.clear zl51 c26_34) (retK [.tmp 4])) (retK [.tmp 4])) (s26_31 x0 x69 M) M) (P26_34 : Rec → AMem → Res) (hP26_34 : Eq P26_34 fun L M => code L c26_34 (retK [.tmp 4]) (s26_34 M) M) (x0 : Option Addr) (x69 : Bool) (M : AMem) : P26_31 L x0 x69 M =
  (if x69 = true
    then (match x0 with
      | some a_1 => (Option.bind (sliceOf? (AMem.ld M a_1.block (a_1.off + 1))) fun s_2 =>
        (if (0 : Int) ≤ 1 ∧ 1 ≤ (Int.ofNat s_2.2.1) ∧ (Int.ofNat s_2.2.1) ≤ (Int.ofNat s_2.2.1)
        then (match x0 with
          | some a_3 => (Option.bind (AMem.wr M a_3.block (a_3.off + 1) [.slice (Option.map (fun p => (⟨p.block, p.off + 2, p.spot⟩ : Addr)) s_2.1) (Int.toNat ((Int.ofNat s_2.2.1) - 1)) (if s_2.2.2 = 2 then 2 else 0)]) fun M_4 =>
            P26_34 L M_4)
          | none => none)
        else none))
      | none => none)
    else (match x0 with
      | some a_5 => (Option.bind (intOf? .i64 (AMem.ld M a_5.block (a_5.off + 5))) fun x_6 =>
        (match x0 with
        | some a_7 => (Option.bind (AMem.wr M a_7.block (a_7.off + 5) [.int .i64 (IntKind.wrap .i64 (x_6 + 1))]) fun M_8 =>
          P26_34 L M_8)
        | none => none))
      | none => none)) := by
  subst hP26_31; subst hP26_34; kernel_rfl
theorem P26_31_eq (L : Rec) (x0 : Option Addr) (x69 : Bool) (M : AMem) : P26_31 L x0 x69 M =
  (if x69 = true
    then (match x0 with
      | some a_1 => (Option.bind (sliceOf? (AMem.ld M a_1.block (a_1.off + 1))) fun s_2 =>
        (if (0 : Int) ≤ 1 ∧ 1 ≤ (Int.ofNat s_2.2.1) ∧ (Int.ofNat s_2.2.1) ≤ (Int.ofNat s_2.2.1)
        then (match x0 with
          | some a_3 => (Option.bind (AMem.wr M a_3.block (a_3.off + 1) [.slice (Option.map (fun p => (⟨p.block, p.off + 2, p.spot⟩ : Addr)) s_2.1) (Int.toNat ((Int.ofNat s_2.2.1) - 1)) (if s_2.2.2 = 2 then 2 else 0)]) fun M_4 =>
            P26_34 L M_4)
          | none => none)
        else none))
      | none => none)
    else (match x0 with
      | some a_5 => (Option.bind (intOf? .i64 (AMem.ld M a_5.block (a_5.off + 5))) fun x_6 =>
        (match x0 with
        | some a_7 => (Option.bind (AMem.wr M a_7.block (a_7.off + 5) [.int .i64 (IntKind.wrap .i64 (x_6 + 1))]) fun M_8 =>
          P26_34 L M_8)
        | none => none))
      | none => none)) := QP26_31_eq L c26_34 P26_31 (Classical.choose_spec XP26_31) P26_34 (Classical.choose_spec XP26_34) x0 x69 M
theorem QP26_34_eq (L : Rec) (P26_34 : Rec → AMem → Res) (hP26_34 : Eq P26_34 fun L M => code L (.seq (.ops o26_35) (.ret)) (retK [.tmp 4]) (s26_34 M) M) (M : AMem) : P26_34 L M =
  some (.bool true, M) := by
  subst hP26_34; kernel_rfl
theorem P26_34_eq (L : Rec) (M : AMem) : P26_34 L M =
  some (.bool true, M) := QP26_34_eq L P26_34 (Classical.choose_spec XP26_34) M
theorem QE26 (L : Rec) (c26_31 c26_34 : ACode) (P26_31 : Rec → (Option Addr) → Bool → AMem → Res) (hP26_31 : Eq P26_31 fun L x0 x69 M => code L c26_31 (seqK (code L (.clear zl51 c26_34) (retK [.tmp 4])) (retK [.tmp 4])) (s26_31 x0 x69 M) M) (x0 : Option Addr) (x1 : Option Addr) (M : AMem) : enterF L ⟨85, [.tmp 4], .seq (.ops o26_1) (.seq (.seq (.draw [] 0 o26_4 []) (.cond (.tmp 25) (.seq (.ops o26_7) (.ret)) (.skip))) (.seq (.ops o26_11) (.seq (.seq (.ops o26_14) (.cond (.tmp 36) (.seq (.ops o26_17) (.seq (.ops o26_19) (.seq (.ops o26_21) (.seq (.ops o26_23) (.ret))))) (.skip))) (.seq (.ops o26_27) (.seq (.seq (.draw [] 0 o26_30 []) (.clear zl50 c26_31)) (.clear zl51 c26_34))))))⟩ [.pointer x0, .pointer x1] M =
  (match x0 with
    | some a_1 => (Option.bind (sliceOf? (AMem.ld M a_1.block (a_1.off + 1))) fun s_2 =>
      (if ((Int.ofNat s_2.2.1) == 0) = true
      then some (.bool false, M)
      else (match x1 with
        | some a_3 => (Option.bind (sliceOf? (AMem.ld M a_3.block a_3.off)) fun s_4 =>
          (match x0 with
          | some a_5 => (Option.bind (intOf? .i64 (AMem.ld M a_5.block a_5.off)) fun x_6 =>
            (if ((Int.ofNat s_4.2.1) != x_6) = true
            then some (.bool false, M)
            else (match x0 with
              | some a_7 => (Option.bind (sliceOf? (AMem.ld M a_7.block (a_7.off + 1))) fun s_8 =>
                (match s_8.1 with
                | some a_9 => (if (0 : Int) ≤ 0 ∧ 0 < (Int.ofNat s_8.2.1)
                  then (Option.bind (intOf? .i64 (AMem.ld M a_9.block a_9.off)) fun x_10 =>
                    (Option.bind (intOf? .u64 (AMem.ld M a_9.block (a_9.off + 1))) fun x_11 =>
                    (Option.bind (AMem.wr (M ++ [AObj.cells [.int .i64 0, .int .u64 0] ⟨false, 0⟩]) (List.length M) 0 [.int .i64 x_10, .int .u64 x_11]) fun M_12 =>
                    (match x0 with
                    | some a_13 => (Option.bind (boolOf? (AMem.ld M_12 a_13.block (a_13.off + 3))) fun q_14 =>
                      (if (!q_14) = true
                      then (Option.bind (intOf? .i64 (AMem.ld M_12 (List.length M) 0)) fun x_15 =>
                        (Option.bind (L.call 49 [.pointer x1, .int .i64 x_15] M_12) fun r_16 =>
                        (Option.bind (tupOf? 2 r_16.1) fun cs_17 =>
                        (Option.bind (cs_17[0]?) fun u_18 =>
                        (Option.bind (intOf? .u64 (some u_18)) fun x_19 =>
                        (Option.bind (cs_17[1]?) fun u_20 =>
                        (Option.bind (boolOf? (some u_20)) fun q_21 =>
                        (match x0 with
                        | some a_22 => (Option.bind (AMem.wr r_16.2 a_22.block (a_22.off + 4) [.int .u64 x_19]) fun M_23 =>
                          (match x0 with
                          | some a_24 => (Option.bind (AMem.wr M_23 a_24.block (a_24.off + 3) [.bool q_21]) fun M_25 =>
                            some (.bool true, M_25))
                          | none => none))
                        | none => none))))))))
                      else (match x0 with
                        | some a_26 => (Option.bind (AMem.wr M_12 a_26.block (a_26.off + 3) [.bool false]) fun M_27 =>
                          (Option.bind (intOf? .i64 (AMem.ld M_27 (List.length M) 0)) fun x_28 =>
                          (match x0 with
                          | some a_29 => (Option.bind (intOf? .u64 (AMem.ld M_27 a_29.block (a_29.off + 4))) fun x_30 =>
                            (match x0 with
                            | some a_31 => (Option.bind (intOf? .u64 (AMem.ld M_27 a_31.block (a_31.off + 4))) fun x_32 =>
                              (Option.bind (intOf? .u64 (AMem.ld M_27 (List.length M) 1)) fun x_33 =>
                              (Option.bind (L.call 50 [.pointer x1, .int .i64 x_28, .int .u64 x_30, .int .u64 (IntKind.wrap .u64 (x_32 + x_33))] M_27) fun r_34 =>
                              (Option.bind (boolOf? (some r_34.1)) fun q_35 =>
                              P26_31 L x0 q_35 r_34.2))))
                            | none => none))
                          | none => none)))
                        | none => none)))
                    | none => none))))
                  else none)
                | none => none))
              | none => none)))
          | none => none))
        | none => none)))
    | none => none) := by
  subst hP26_31; kernel_rfl
theorem E26 (L : Rec) (x0 : Option Addr) (x1 : Option Addr) (M : AMem) : enterF L a26 [.pointer x0, .pointer x1] M =
  (match x0 with
    | some a_1 => (Option.bind (sliceOf? (AMem.ld M a_1.block (a_1.off + 1))) fun s_2 =>
      (if ((Int.ofNat s_2.2.1) == 0) = true
      then some (.bool false, M)
      else (match x1 with
        | some a_3 => (Option.bind (sliceOf? (AMem.ld M a_3.block a_3.off)) fun s_4 =>
          (match x0 with
          | some a_5 => (Option.bind (intOf? .i64 (AMem.ld M a_5.block a_5.off)) fun x_6 =>
            (if ((Int.ofNat s_4.2.1) != x_6) = true
            then some (.bool false, M)
            else (match x0 with
              | some a_7 => (Option.bind (sliceOf? (AMem.ld M a_7.block (a_7.off + 1))) fun s_8 =>
                (match s_8.1 with
                | some a_9 => (if (0 : Int) ≤ 0 ∧ 0 < (Int.ofNat s_8.2.1)
                  then (Option.bind (intOf? .i64 (AMem.ld M a_9.block a_9.off)) fun x_10 =>
                    (Option.bind (intOf? .u64 (AMem.ld M a_9.block (a_9.off + 1))) fun x_11 =>
                    (Option.bind (AMem.wr (M ++ [AObj.cells [.int .i64 0, .int .u64 0] ⟨false, 0⟩]) (List.length M) 0 [.int .i64 x_10, .int .u64 x_11]) fun M_12 =>
                    (match x0 with
                    | some a_13 => (Option.bind (boolOf? (AMem.ld M_12 a_13.block (a_13.off + 3))) fun q_14 =>
                      (if (!q_14) = true
                      then (Option.bind (intOf? .i64 (AMem.ld M_12 (List.length M) 0)) fun x_15 =>
                        (Option.bind (L.call 49 [.pointer x1, .int .i64 x_15] M_12) fun r_16 =>
                        (Option.bind (tupOf? 2 r_16.1) fun cs_17 =>
                        (Option.bind (cs_17[0]?) fun u_18 =>
                        (Option.bind (intOf? .u64 (some u_18)) fun x_19 =>
                        (Option.bind (cs_17[1]?) fun u_20 =>
                        (Option.bind (boolOf? (some u_20)) fun q_21 =>
                        (match x0 with
                        | some a_22 => (Option.bind (AMem.wr r_16.2 a_22.block (a_22.off + 4) [.int .u64 x_19]) fun M_23 =>
                          (match x0 with
                          | some a_24 => (Option.bind (AMem.wr M_23 a_24.block (a_24.off + 3) [.bool q_21]) fun M_25 =>
                            some (.bool true, M_25))
                          | none => none))
                        | none => none))))))))
                      else (match x0 with
                        | some a_26 => (Option.bind (AMem.wr M_12 a_26.block (a_26.off + 3) [.bool false]) fun M_27 =>
                          (Option.bind (intOf? .i64 (AMem.ld M_27 (List.length M) 0)) fun x_28 =>
                          (match x0 with
                          | some a_29 => (Option.bind (intOf? .u64 (AMem.ld M_27 a_29.block (a_29.off + 4))) fun x_30 =>
                            (match x0 with
                            | some a_31 => (Option.bind (intOf? .u64 (AMem.ld M_27 a_31.block (a_31.off + 4))) fun x_32 =>
                              (Option.bind (intOf? .u64 (AMem.ld M_27 (List.length M) 1)) fun x_33 =>
                              (Option.bind (L.call 50 [.pointer x1, .int .i64 x_28, .int .u64 x_30, .int .u64 (IntKind.wrap .u64 (x_32 + x_33))] M_27) fun r_34 =>
                              (Option.bind (boolOf? (some r_34.1)) fun q_35 =>
                              P26_31 L x0 q_35 r_34.2))))
                            | none => none))
                          | none => none)))
                        | none => none)))
                    | none => none))))
                  else none)
                | none => none))
              | none => none)))
          | none => none))
        | none => none)))
    | none => none) := QE26 L c26_31 c26_34 P26_31 (Classical.choose_spec XP26_31) x0 x1 M
/-! #### skylightref31.Size -/
theorem E10 (L : Rec) (x0_0 : Int) (x0_1 : Int) : enterF L a10 [.agg #[.int .i64 x0_0, .int .i64 x0_1]] [] =
  (Option.bind (L.call 6 [.agg #[.int .i64 x0_0, .int .i64 x0_1]] []) fun r_1 =>
    (Option.bind (boolOf? (some r_1.1)) fun q_2 =>
    (if (!q_2) = true
    then some (.int .i64 0, ([AObj.cells [.int .i64 x0_0, .int .i64 x0_1] ⟨false, 0⟩] : AMem))
    else some (.int .i64 (IntKind.wrap .i64 ((IntKind.wrap .i64 (1 + (IntKind.wrap .i64 (2 * x0_1)))) + (IntKind.wrap .i64 (3 * x0_0)))), ([AObj.cells [.int .i64 x0_0, .int .i64 x0_1] ⟨false, 0⟩] : AMem))))) := by kernel_rfl
/-! #### skylightref31.At -/
theorem E59 (L : Rec) (x0_0 : Int) (x0_1 : Int) (x1_0 : Int) (x1_1 : Int) (x1_2 : Int) : enterF L a59 [.agg #[.int .i64 x0_0, .int .i64 x0_1], .agg #[.int .i64 x1_0, .int .i64 x1_1, .int .i64 x1_2]] [] =
  (if (x1_0 == 2) = true
    then some (.int .i64 (IntKind.wrap .i64 (1 + x1_1)), ([AObj.cells [.int .i64 x0_0, .int .i64 x0_1] ⟨false, 0⟩, AObj.cells [.int .i64 x1_0, .int .i64 x1_1, .int .i64 x1_2] ⟨false, 0⟩] : AMem))
    else (if (x1_0 == 3) = true
      then some (.int .i64 (IntKind.wrap .i64 ((IntKind.wrap .i64 (1 + x0_1)) + x1_1)), ([AObj.cells [.int .i64 x0_0, .int .i64 x0_1] ⟨false, 0⟩, AObj.cells [.int .i64 x1_0, .int .i64 x1_1, .int .i64 x1_2] ⟨false, 0⟩] : AMem))
      else some (.int .i64 (IntKind.wrap .i64 ((IntKind.wrap .i64 ((IntKind.wrap .i64 (1 + (IntKind.wrap .i64 (2 * x0_1)))) + (IntKind.wrap .i64 (3 * x1_1)))) + x1_2)), ([AObj.cells [.int .i64 x0_0, .int .i64 x0_1] ⟨false, 0⟩, AObj.cells [.int .i64 x1_0, .int .i64 x1_1, .int .i64 x1_2] ⟨false, 0⟩] : AMem)))) := by kernel_rfl
end Go.Proofs.Ytpnknolehckfhaa
