/- What the pieces of some functions come to. -/
import Derived.Test.YtncfdkmhpnopiaaCode
set_option linter.unusedVariables false
set_option maxRecDepth 100000
namespace Go.Proofs.Ytncfdkmhpnopiaa
open Go Go.Ax
/-! #### skylightlaw51.MipTells -/
noncomputable def k5_24 (L : Rec) : KT := blockK 0 (seqK (code L (.clear zl18 c5_41) (retK [.tmp 10])) (retK [.tmp 10]))
def s5_24 (x1 : Int) (x2 : Int) (x3 : Int) (x4 : Int) (x5 : Nat) (x11 : Option Addr) (x11n : Nat) (x11c : Nat) (x12 : Option Addr) (x12n : Nat) (x12c : Nat) (x13 : Int) (M : AMem) : List Value := [junk, .int .i64 x1, .int .i64 x2, .int .i64 x3, .int .i64 x4, .pointer (some ⟨x5, 0, none⟩), junk, junk, junk, junk, junk, .slice x11 x11n x11c, .slice x12 x12n x12c, .int .i64 x13, junk, junk, junk, junk, junk, junk, junk, junk, junk, junk, junk, junk, junk, junk, junk, junk, junk, junk, junk, junk, junk, junk, junk, junk, junk, junk, junk, junk, junk, junk, junk, junk, junk, junk, junk, junk, junk, junk, junk, junk, junk, junk, junk, junk, junk, junk, junk, junk, junk, junk, junk, junk, junk, junk, junk, junk, junk, junk, junk, junk, junk, junk, junk, junk, junk, junk, junk, junk, junk, junk, junk, junk, junk, junk, junk, junk, junk, junk, junk, junk, junk, junk, junk, junk, junk, junk, junk, junk, junk, junk, junk, junk, junk, junk, junk, junk, junk, junk, junk, junk, junk, junk, junk, junk, junk, junk, junk, junk, junk, junk, junk, junk, junk, junk, junk]
theorem XP5_24 : ∃ P : Rec → Int → Int → Int → Int → Nat → (Option Addr) → Nat → Nat → (Option Addr) → Nat → Nat → Int → AMem → Res, P = fun (L : Rec) (x1 : Int) (x2 : Int) (x3 : Int) (x4 : Int) (x5 : Nat) (x11 : Option Addr) (x11n : Nat) (x11c : Nat) (x12 : Option Addr) (x12n : Nat) (x12c : Nat) (x13 : Int) (M : AMem) => L.loop b5_24 (k5_24 L) (s5_24 x1 x2 x3 x4 x5 x11 x11n x11c x12 x12n x12c x13 M) M := ⟨_, rfl⟩
noncomputable def P5_24 : Rec → Int → Int → Int → Int → Nat → (Option Addr) → Nat → Nat → (Option Addr) → Nat → Nat → Int → AMem → Res := Classical.choose XP5_24
noncomputable def k5_40 (L : Rec) : KT := postK zl17 (loopK L b5_24 (blockK 0 (seqK (code L (.clear zl18 c5_41) (retK [.tmp 10])) (retK [.tmp 10]))))
def s5_40 (x1 : Int) (x2 : Int) (x3 : Int) (x4 : Int) (x5 : Nat) (x11 : Option Addr) (x11n : Nat) (x11c : Nat) (x12 : Option Addr) (x12n : Nat) (x12c : Nat) (x13 : Int) (M : AMem) : List Value := [junk, .int .i64 x1, .int .i64 x2, .int .i64 x3, .int .i64 x4, .pointer (some ⟨x5, 0, none⟩), junk, junk, junk, junk, junk, .slice x11 x11n x11c, .slice x12 x12n x12c, .int .i64 x13, junk, junk, junk, junk, junk, junk, junk, junk, junk, junk, junk, junk, junk, junk, junk, junk, junk, junk, junk, junk, junk, junk, junk, junk, junk, junk, junk, junk, junk, junk, junk, junk, junk, junk, junk, junk, junk, junk, junk, junk, junk, junk, junk, junk, junk, junk, junk, junk, junk, junk, junk, junk, junk, junk, junk, junk, junk, junk, junk, junk, junk, junk, junk, junk, junk, junk, junk, junk, junk, junk, junk, junk, junk, junk, junk, junk, junk, junk, junk, junk, junk, junk, junk, junk, junk, junk, junk, junk, junk, junk, junk, junk, junk, junk, junk, junk, junk, junk, junk, junk, junk, junk, junk, junk, junk, junk, junk, junk, junk, junk, junk, junk, junk, junk, junk]
theorem XP5_40 : ∃ P : Rec → Int → Int → Int → Int → Nat → (Option Addr) → Nat → Nat → (Option Addr) → Nat → Nat → Int → AMem → Res, P = fun (L : Rec) (x1 : Int) (x2 : Int) (x3 : Int) (x4 : Int) (x5 : Nat) (x11 : Option Addr) (x11n : Nat) (x11c : Nat) (x12 : Option Addr) (x12n : Nat) (x12c : Nat) (x13 : Int) (M : AMem) => code L c5_40 (k5_40 L) (s5_40 x1 x2 x3 x4 x5 x11 x11n x11c x12 x12n x12c x13 M) M := ⟨_, rfl⟩
noncomputable def P5_40 : Rec → Int → Int → Int → Int → Nat → (Option Addr) → Nat → Nat → (Option Addr) → Nat → Nat → Int → AMem → Res := Classical.choose XP5_40
noncomputable def k5_41 (L : Rec) : KT := retK [.tmp 10]
def s5_41 (x1 : Int) (x2 : Int) (x3 : Int) (x4 : Int) (x5 : Nat) (M : AMem) : List Value := [junk, .int .i64 x1, .int .i64 x2, .int .i64 x3, .int .i64 x4, .pointer (some ⟨x5, 0, none⟩), junk, junk, junk, junk, junk, junk, junk, junk, junk, junk, junk, junk, junk, junk, junk, junk, junk, junk, junk, junk, junk, junk, junk, junk, junk, junk, junk, junk, junk, junk, junk, junk, junk, junk, junk, junk, junk, junk, junk, junk, junk, junk, junk, junk, junk, junk, junk, junk, junk, junk, junk, junk, junk, junk, junk, junk, junk, junk, junk, junk, junk, junk, junk, junk, junk, junk, junk, junk, junk, junk, junk, junk, junk, junk, junk, junk, junk, junk, junk, junk, junk, junk, junk, junk, junk, junk, junk, junk, junk, junk, junk, junk, junk, junk, junk, junk, junk, junk, junk, junk, junk, junk, junk, junk, junk, junk, junk, junk, junk, junk, junk, junk, junk, junk, junk, junk, junk, junk, junk, junk, junk, junk, junk]
theorem XP5_41 : ∃ P : Rec → Int → Int → Int → Int → Nat → AMem → Res, P = fun (L : Rec) (x1 : Int) (x2 : Int) (x3 : Int) (x4 : Int) (x5 : Nat) (M : AMem) => code L c5_41 (k5_41 L) (s5_41 x1 x2 x3 x4 x5 M) M := ⟨_, rfl⟩
noncomputable def P5_41 : Rec → Int → Int → Int → Int → Nat → AMem → Res := Classical.choose XP5_41
theorem QP5_24_eq (L : Rec) (b5_24 c5_40 c5_41 : ACode) (hb : ∀ K t A, L.loop b5_24 K t A = code L (.post (.seq (.seq (.ops o5_27) (.cond (.tmp 40) (.skip) (.exit 0))) (.seq (.block 1 (.seq (.draw [] 0 o5_34 [(8, 4)]) (.cond (.tmp 53) (.seq (.ops o5_37) (.ret)) (.skip)))) (.clear zl17 c5_40))) zl17) (loopK L b5_24 K) t A) (P5_24 : Rec → Int → Int → Int → Int → Nat → (Option Addr) → Nat → Nat → (Option Addr) → Nat → Nat → Int → AMem → Res) (hP5_24 : P5_24 = fun (L : Rec) (x1 : Int) (x2 : Int) (x3 : Int) (x4 : Int) (x5 : Nat) (x11 : Option Addr) (x11n : Nat) (x11c : Nat) (x12 : Option Addr) (x12n : Nat) (x12c : Nat) (x13 : Int) (M : AMem) => L.loop b5_24 (blockK 0 (seqK (code L (.clear zl18 c5_41) (retK [.tmp 10])) (retK [.tmp 10]))) (s5_24 x1 x2 x3 x4 x5 x11 x11n x11c x12 x12n x12c x13 M) M) (P5_40 : Rec → Int → Int → Int → Int → Nat → (Option Addr) → Nat → Nat → (Option Addr) → Nat → Nat → Int → AMem → Res) (hP5_40 : P5_40 = fun (L : Rec) (x1 : Int) (x2 : Int) (x3 : Int) (x4 : Int) (x5 : Nat) (x11 : Option Addr) (x11n : Nat) (x11c : Nat) (x12 : Option Addr) (x12n : Nat) (x12c : Nat) (x13 : Int) (M : AMem) => code L c5_40 (postK zl17 (loopK L b5_24 (blockK 0 (seqK (code L (.clear zl18 c5_41) (retK [.tmp 10])) (retK [.tmp 10]))))) (s5_40 x1 x2 x3 x4 x5 x11 x11n x11c x12 x12n x12c x13 M) M) (P5_41 : Rec → Int → Int → Int → Int → Nat → AMem → Res) (hP5_41 : P5_41 = fun (L : Rec) (x1 : Int) (x2 : Int) (x3 : Int) (x4 : Int) (x5 : Nat) (M : AMem) => code L c5_41 (retK [.tmp 10]) (s5_41 x1 x2 x3 x4 x5 M) M) (x1 : Int) (x2 : Int) (x3 : Int) (x4 : Int) (x5 : Nat) (x11 : Option Addr) (x11n : Nat) (x11c : Nat) (x12 : Option Addr) (x12n : Nat) (x12c : Nat) (x13 : Int) (M : AMem) : P5_24 L x1 x2 x3 x4 x5 x11 x11n x11c x12 x12n x12c x13 M =
  (if (decide (x13 < (Int.ofNat x11n))) = true
    then (match x11 with
      | some a_1 => (if (0 : Int) ≤ x13 ∧ x13 < (Int.ofNat x11n)
        then (Option.bind (intOf? .i64 (AMem.ld M a_1.block (a_1.off + ((Int.toNat x13) * 3)))) fun x_2 =>
          (Option.bind (intOf? .i64 (AMem.ld M a_1.block ((a_1.off + ((Int.toNat x13) * 3)) + 1))) fun x_3 =>
          (Option.bind (sliceOf? (AMem.ld M a_1.block ((a_1.off + ((Int.toNat x13) * 3)) + 2))) fun s_4 =>
          (Option.bind (L.call 13 [.agg #[.int .i64 x_2, .int .i64 x_3, .slice s_4.1 s_4.2.1 s_4.2.2]] M) fun r_5 =>
          (Option.bind (aggOf? 3 r_5.1) fun cs_6 =>
          (Option.bind (intOf? .i64 (cs_6[0]?)) fun x_7 =>
          (Option.bind (intOf? .i64 (cs_6[1]?)) fun x_8 =>
          (Option.bind (sliceOf? (cs_6[2]?)) fun s_9 =>
          (match x12 with
          | some a_10 => (if (0 : Int) ≤ x13 ∧ x13 < (Int.ofNat x12n)
            then (Option.bind (intOf? .i64 (AMem.ld r_5.2 a_10.block (a_10.off + ((Int.toNat x13) * 3)))) fun x_11 =>
              (Option.bind (intOf? .i64 (AMem.ld r_5.2 a_10.block ((a_10.off + ((Int.toNat x13) * 3)) + 1))) fun x_12 =>
              (Option.bind (sliceOf? (AMem.ld r_5.2 a_10.block ((a_10.off + ((Int.toNat x13) * 3)) + 2))) fun s_13 =>
              (Option.bind (L.call 12 [.agg #[.int .i64 x_7, .int .i64 x_8, .slice s_9.1 s_9.2.1 s_9.2.2], .agg #[.int .i64 x_11, .int .i64 x_12, .slice s_13.1 s_13.2.1 s_13.2.2]] r_5.2) fun r_14 =>
              (Option.bind (boolOf? (some r_14.1)) fun q_15 =>
              (if chkOk [(8, 4)] [(8, a_10.block)] [(4, (M, r_5.2))] = true
              then (if (!q_15) = true
                then some (.bool false, r_14.2)
                else P5_40 L x1 x2 x3 x4 x5 x11 x11n x11c x12 x12n x12c x13 r_14.2)
              else none))))))
            else none)
          | none => none)))))))))
        else none)
      | none => none)
    else P5_41 L x1 x2 x3 x4 x5 M) := by
  subst hP5_24; subst hP5_40; subst hP5_41; exact (hb (blockK 0 (seqK (code L (.clear zl18 c5_41) (retK [.tmp 10])) (retK [.tmp 10]))) (s5_24 x1 x2 x3 x4 x5 x11 x11n x11c x12 x12n x12c x13 M) M).trans (by kernel_rfl)
theorem P5_24_eq (L : Rec) (hL : ∀ b K t A, L.loop b K t A = code L b (loopK L b K) t A) (x1 : Int) (x2 : Int) (x3 : Int) (x4 : Int) (x5 : Nat) (x11 : Option Addr) (x11n : Nat) (x11c : Nat) (x12 : Option Addr) (x12n : Nat) (x12c : Nat) (x13 : Int) (M : AMem) : P5_24 L x1 x2 x3 x4 x5 x11 x11n x11c x12 x12n x12c x13 M =
  (if (decide (x13 < (Int.ofNat x11n))) = true
    then (match x11 with
      | some a_1 => (if (0 : Int) ≤ x13 ∧ x13 < (Int.ofNat x11n)
        then (Option.bind (intOf? .i64 (AMem.ld M a_1.block (a_1.off + ((Int.toNat x13) * 3)))) fun x_2 =>
          (Option.bind (intOf? .i64 (AMem.ld M a_1.block ((a_1.off + ((Int.toNat x13) * 3)) + 1))) fun x_3 =>
          (Option.bind (sliceOf? (AMem.ld M a_1.block ((a_1.off + ((Int.toNat x13) * 3)) + 2))) fun s_4 =>
          (Option.bind (L.call 13 [.agg #[.int .i64 x_2, .int .i64 x_3, .slice s_4.1 s_4.2.1 s_4.2.2]] M) fun r_5 =>
          (Option.bind (aggOf? 3 r_5.1) fun cs_6 =>
          (Option.bind (intOf? .i64 (cs_6[0]?)) fun x_7 =>
          (Option.bind (intOf? .i64 (cs_6[1]?)) fun x_8 =>
          (Option.bind (sliceOf? (cs_6[2]?)) fun s_9 =>
          (match x12 with
          | some a_10 => (if (0 : Int) ≤ x13 ∧ x13 < (Int.ofNat x12n)
            then (Option.bind (intOf? .i64 (AMem.ld r_5.2 a_10.block (a_10.off + ((Int.toNat x13) * 3)))) fun x_11 =>
              (Option.bind (intOf? .i64 (AMem.ld r_5.2 a_10.block ((a_10.off + ((Int.toNat x13) * 3)) + 1))) fun x_12 =>
              (Option.bind (sliceOf? (AMem.ld r_5.2 a_10.block ((a_10.off + ((Int.toNat x13) * 3)) + 2))) fun s_13 =>
              (Option.bind (L.call 12 [.agg #[.int .i64 x_7, .int .i64 x_8, .slice s_9.1 s_9.2.1 s_9.2.2], .agg #[.int .i64 x_11, .int .i64 x_12, .slice s_13.1 s_13.2.1 s_13.2.2]] r_5.2) fun r_14 =>
              (Option.bind (boolOf? (some r_14.1)) fun q_15 =>
              (if chkOk [(8, 4)] [(8, a_10.block)] [(4, (M, r_5.2))] = true
              then (if (!q_15) = true
                then some (.bool false, r_14.2)
                else P5_40 L x1 x2 x3 x4 x5 x11 x11n x11c x12 x12n x12c x13 r_14.2)
              else none))))))
            else none)
          | none => none)))))))))
        else none)
      | none => none)
    else P5_41 L x1 x2 x3 x4 x5 M) := QP5_24_eq L b5_24 c5_40 c5_41 (hL b5_24) P5_24 (Classical.choose_spec XP5_24) P5_40 (Classical.choose_spec XP5_40) P5_41 (Classical.choose_spec XP5_41) x1 x2 x3 x4 x5 x11 x11n x11c x12 x12n x12c x13 M
theorem QP5_40_eq (L : Rec) (b5_24 c5_41 : ACode) (P5_24 : Rec → Int → Int → Int → Int → Nat → (Option Addr) → Nat → Nat → (Option Addr) → Nat → Nat → Int → AMem → Res) (hP5_24 : P5_24 = fun (L : Rec) (x1 : Int) (x2 : Int) (x3 : Int) (x4 : Int) (x5 : Nat) (x11 : Option Addr) (x11n : Nat) (x11c : Nat) (x12 : Option Addr) (x12n : Nat) (x12c : Nat) (x13 : Int) (M : AMem) => L.loop b5_24 (blockK 0 (seqK (code L (.clear zl18 c5_41) (retK [.tmp 10])) (retK [.tmp 10]))) (s5_24 x1 x2 x3 x4 x5 x11 x11n x11c x12 x12n x12c x13 M) M) (P5_40 : Rec → Int → Int → Int → Int → Nat → (Option Addr) → Nat → Nat → (Option Addr) → Nat → Nat → Int → AMem → Res) (hP5_40 : P5_40 = fun (L : Rec) (x1 : Int) (x2 : Int) (x3 : Int) (x4 : Int) (x5 : Nat) (x11 : Option Addr) (x11n : Nat) (x11c : Nat) (x12 : Option Addr) (x12n : Nat) (x12c : Nat) (x13 : Int) (M : AMem) => code L (.ops o5_40) (postK zl17 (loopK L b5_24 (blockK 0 (seqK (code L (.clear zl18 c5_41) (retK [.tmp 10])) (retK [.tmp 10]))))) (s5_40 x1 x2 x3 x4 x5 x11 x11n x11c x12 x12n x12c x13 M) M) (x1 : Int) (x2 : Int) (x3 : Int) (x4 : Int) (x5 : Nat) (x11 : Option Addr) (x11n : Nat) (x11c : Nat) (x12 : Option Addr) (x12n : Nat) (x12c : Nat) (x13 : Int) (M : AMem) : P5_40 L x1 x2 x3 x4 x5 x11 x11n x11c x12 x12n x12c x13 M =
  P5_24 L x1 x2 x3 x4 x5 x11 x11n x11c x12 x12n x12c (IntKind.wrap .i64 (x13 + 1)) M := by
  subst hP5_24; subst hP5_40; kernel_rfl
theorem P5_40_eq (L : Rec) (x1 : Int) (x2 : Int) (x3 : Int) (x4 : Int) (x5 : Nat) (x11 : Option Addr) (x11n : Nat) (x11c : Nat) (x12 : Option Addr) (x12n : Nat) (x12c : Nat) (x13 : Int) (M : AMem) : P5_40 L x1 x2 x3 x4 x5 x11 x11n x11c x12 x12n x12c x13 M =
  P5_24 L x1 x2 x3 x4 x5 x11 x11n x11c x12 x12n x12c (IntKind.wrap .i64 (x13 + 1)) M := QP5_40_eq L b5_24 c5_41 P5_24 (Classical.choose_spec XP5_24) P5_40 (Classical.choose_spec XP5_40) x1 x2 x3 x4 x5 x11 x11n x11c x12 x12n x12c x13 M
theorem QP5_41_eq (L : Rec) (P5_41 : Rec → Int → Int → Int → Int → Nat → AMem → Res) (hP5_41 : P5_41 = fun (L : Rec) (x1 : Int) (x2 : Int) (x3 : Int) (x4 : Int) (x5 : Nat) (M : AMem) => code L (.seq (.ops o5_42) (.seq (.ops o5_44) (.seq (.ops o5_46) (.seq (.ops o5_48) (.seq (.draw [] 0 o5_50 [(4, 1), (4, 2), (4, 3), (10, 9), (21, 20)]) (.ret)))))) (retK [.tmp 10]) (s5_41 x1 x2 x3 x4 x5 M) M) (x1 : Int) (x2 : Int) (x3 : Int) (x4 : Int) (x5 : Nat) (M : AMem) : P5_41 L x1 x2 x3 x4 x5 M =
  (Option.bind (intOf? .i64 (AMem.ld M x5 0)) fun x_1 =>
    (Option.bind (intOf? .i64 (AMem.ld M x5 1)) fun x_2 =>
    (Option.bind (sliceOf? (AMem.ld M x5 2)) fun s_3 =>
    (Option.bind (L.call 9 [.agg #[.int .i64 x_1, .int .i64 x_2, .slice s_3.1 s_3.2.1 s_3.2.2]] M) fun r_4 =>
    (Option.bind (aggOf? 3 r_4.1) fun cs_5 =>
    (Option.bind (intOf? .i64 (cs_5[0]?)) fun x_6 =>
    (Option.bind (intOf? .i64 (cs_5[1]?)) fun x_7 =>
    (Option.bind (sliceOf? (cs_5[2]?)) fun s_8 =>
    (Option.bind (L.call 11 [.agg #[.int .i64 x_6, .int .i64 x_7, .slice s_8.1 s_8.2.1 s_8.2.2], .int .i64 x3, .int .i64 x4] r_4.2) fun r_9 =>
    (Option.bind (tupOf? 2 r_9.1) fun cs_10 =>
    (Option.bind (cs_10[0]?) fun u_11 =>
    (Option.bind (aggOf? 3 u_11) fun cs_12 =>
    (Option.bind (intOf? .i64 (cs_12[0]?)) fun x_13 =>
    (Option.bind (intOf? .i64 (cs_12[1]?)) fun x_14 =>
    (Option.bind (sliceOf? (cs_12[2]?)) fun s_15 =>
    (Option.bind (cs_10[1]?) fun u_16 =>
    (Option.bind (boolOf? (some u_16)) fun q_17 =>
    (Option.bind (AMem.wr (r_9.2 ++ [AObj.cells [.int .i64 0, .int .i64 0, .slice none 0 0] ⟨false, 0⟩]) (List.length r_9.2) 0 [.int .i64 x_13, .int .i64 x_14, .slice s_15.1 s_15.2.1 s_15.2.2]) fun M_18 =>
    (Option.bind (intOf? .i64 (AMem.ld M_18 x5 0)) fun x_19 =>
    (Option.bind (intOf? .i64 (AMem.ld M_18 x5 1)) fun x_20 =>
    (Option.bind (sliceOf? (AMem.ld M_18 x5 2)) fun s_21 =>
    (Option.bind (L.call 17 [.agg #[.int .i64 x_19, .int .i64 x_20, .slice s_21.1 s_21.2.1 s_21.2.2], .int .i64 x3, .int .i64 x4] M_18) fun r_22 =>
    (Option.bind (tupOf? 2 r_22.1) fun cs_23 =>
    (Option.bind (cs_23[0]?) fun u_24 =>
    (Option.bind (aggOf? 3 u_24) fun cs_25 =>
    (Option.bind (intOf? .i64 (cs_25[0]?)) fun x_26 =>
    (Option.bind (intOf? .i64 (cs_25[1]?)) fun x_27 =>
    (Option.bind (sliceOf? (cs_25[2]?)) fun s_28 =>
    (Option.bind (cs_23[1]?) fun u_29 =>
    (Option.bind (boolOf? (some u_29)) fun q_30 =>
    (Option.bind (AMem.wr (r_22.2 ++ [AObj.cells [.int .i64 0, .int .i64 0, .slice none 0 0] ⟨false, 0⟩]) (List.length r_22.2) 0 [.int .i64 x_26, .int .i64 x_27, .slice s_28.1 s_28.2.1 s_28.2.2]) fun M_31 =>
    (Option.bind (intOf? .i64 (AMem.ld M_31 x5 0)) fun x_32 =>
    (Option.bind (intOf? .i64 (AMem.ld M_31 x5 1)) fun x_33 =>
    (Option.bind (sliceOf? (AMem.ld M_31 x5 2)) fun s_34 =>
    (Option.bind (L.call 9 [.agg #[.int .i64 x_32, .int .i64 x_33, .slice s_34.1 s_34.2.1 s_34.2.2]] M_31) fun r_35 =>
    (Option.bind (aggOf? 3 r_35.1) fun cs_36 =>
    (Option.bind (intOf? .i64 (cs_36[0]?)) fun x_37 =>
    (Option.bind (intOf? .i64 (cs_36[1]?)) fun x_38 =>
    (Option.bind (sliceOf? (cs_36[2]?)) fun s_39 =>
    (Option.bind (L.call 10 [.agg #[.int .i64 x_37, .int .i64 x_38, .slice s_39.1 s_39.2.1 s_39.2.2], .int .i64 x1, .int .i64 x2, .int .i64 x3, .int .i64 x4] r_35.2) fun r_40 =>
    (Option.bind (tupOf? 2 r_40.1) fun cs_41 =>
    (Option.bind (cs_41[0]?) fun u_42 =>
    (Option.bind (aggOf? 3 u_42) fun cs_43 =>
    (Option.bind (intOf? .i64 (cs_43[0]?)) fun x_44 =>
    (Option.bind (intOf? .i64 (cs_43[1]?)) fun x_45 =>
    (Option.bind (sliceOf? (cs_43[2]?)) fun s_46 =>
    (Option.bind (cs_41[1]?) fun u_47 =>
    (Option.bind (boolOf? (some u_47)) fun q_48 =>
    (Option.bind (AMem.wr (r_40.2 ++ [AObj.cells [.int .i64 0, .int .i64 0, .slice none 0 0] ⟨false, 0⟩]) (List.length r_40.2) 0 [.int .i64 x_44, .int .i64 x_45, .slice s_46.1 s_46.2.1 s_46.2.2]) fun M_49 =>
    (Option.bind (intOf? .i64 (AMem.ld M_49 x5 0)) fun x_50 =>
    (Option.bind (intOf? .i64 (AMem.ld M_49 x5 1)) fun x_51 =>
    (Option.bind (sliceOf? (AMem.ld M_49 x5 2)) fun s_52 =>
    (Option.bind (L.call 18 [.agg #[.int .i64 x_50, .int .i64 x_51, .slice s_52.1 s_52.2.1 s_52.2.2], .int .i64 x1, .int .i64 x2, .int .i64 x3, .int .i64 x4] M_49) fun r_53 =>
    (Option.bind (tupOf? 2 r_53.1) fun cs_54 =>
    (Option.bind (cs_54[0]?) fun u_55 =>
    (Option.bind (aggOf? 3 u_55) fun cs_56 =>
    (Option.bind (intOf? .i64 (cs_56[0]?)) fun x_57 =>
    (Option.bind (intOf? .i64 (cs_56[1]?)) fun x_58 =>
    (Option.bind (sliceOf? (cs_56[2]?)) fun s_59 =>
    (Option.bind (cs_54[1]?) fun u_60 =>
    (Option.bind (boolOf? (some u_60)) fun q_61 =>
    (Option.bind (AMem.wr (r_53.2 ++ [AObj.cells [.int .i64 0, .int .i64 0, .slice none 0 0] ⟨false, 0⟩]) (List.length r_53.2) 0 [.int .i64 x_57, .int .i64 x_58, .slice s_59.1 s_59.2.1 s_59.2.2]) fun M_62 =>
    (Option.bind (intOf? .i64 (AMem.ld M_62 x5 0)) fun x_63 =>
    (Option.bind (intOf? .i64 (AMem.ld M_62 x5 1)) fun x_64 =>
    (Option.bind (sliceOf? (AMem.ld M_62 x5 2)) fun s_65 =>
    (Option.bind (L.call 9 [.agg #[.int .i64 x_63, .int .i64 x_64, .slice s_65.1 s_65.2.1 s_65.2.2]] M_62) fun r_66 =>
    (Option.bind (aggOf? 3 r_66.1) fun cs_67 =>
    (Option.bind (intOf? .i64 (cs_67[0]?)) fun x_68 =>
    (Option.bind (intOf? .i64 (cs_67[1]?)) fun x_69 =>
    (Option.bind (sliceOf? (cs_67[2]?)) fun s_70 =>
    (Option.bind (L.call 8 [.agg #[.int .i64 x_68, .int .i64 x_69, .slice s_70.1 s_70.2.1 s_70.2.2]] r_66.2) fun r_71 =>
    (Option.bind (aggOf? 3 r_71.1) fun cs_72 =>
    (Option.bind (intOf? .i64 (cs_72[0]?)) fun x_73 =>
    (Option.bind (intOf? .i64 (cs_72[1]?)) fun x_74 =>
    (Option.bind (sliceOf? (cs_72[2]?)) fun s_75 =>
    (Option.bind (L.call 13 [.agg #[.int .i64 x_73, .int .i64 x_74, .slice s_75.1 s_75.2.1 s_75.2.2]] r_71.2) fun r_76 =>
    (Option.bind (aggOf? 3 r_76.1) fun cs_77 =>
    (Option.bind (intOf? .i64 (cs_77[0]?)) fun x_78 =>
    (Option.bind (intOf? .i64 (cs_77[1]?)) fun x_79 =>
    (Option.bind (sliceOf? (cs_77[2]?)) fun s_80 =>
    (Option.bind (intOf? .i64 (AMem.ld r_76.2 x5 0)) fun x_81 =>
    (Option.bind (intOf? .i64 (AMem.ld r_76.2 x5 1)) fun x_82 =>
    (Option.bind (sliceOf? (AMem.ld r_76.2 x5 2)) fun s_83 =>
    (Option.bind (L.call 19 [.agg #[.int .i64 x_81, .int .i64 x_82, .slice s_83.1 s_83.2.1 s_83.2.2]] r_76.2) fun r_84 =>
    (Option.bind (aggOf? 3 r_84.1) fun cs_85 =>
    (Option.bind (intOf? .i64 (cs_85[0]?)) fun x_86 =>
    (Option.bind (intOf? .i64 (cs_85[1]?)) fun x_87 =>
    (Option.bind (sliceOf? (cs_85[2]?)) fun s_88 =>
    (Option.bind (L.call 12 [.agg #[.int .i64 x_78, .int .i64 x_79, .slice s_80.1 s_80.2.1 s_80.2.2], .agg #[.int .i64 x_86, .int .i64 x_87, .slice s_88.1 s_88.2.1 s_88.2.2]] r_84.2) fun r_89 =>
    (Option.bind (boolOf? (some r_89.1)) fun q_90 =>
    (if q_90 = true
    then (Option.bind (intOf? .i64 (AMem.ld r_89.2 (List.length r_9.2) 0)) fun x_91 =>
      (Option.bind (intOf? .i64 (AMem.ld r_89.2 (List.length r_9.2) 1)) fun x_92 =>
      (Option.bind (sliceOf? (AMem.ld r_89.2 (List.length r_9.2) 2)) fun s_93 =>
      (Option.bind (L.call 13 [.agg #[.int .i64 x_91, .int .i64 x_92, .slice s_93.1 s_93.2.1 s_93.2.2]] r_89.2) fun r_94 =>
      (Option.bind (aggOf? 3 r_94.1) fun cs_95 =>
      (Option.bind (intOf? .i64 (cs_95[0]?)) fun x_96 =>
      (Option.bind (intOf? .i64 (cs_95[1]?)) fun x_97 =>
      (Option.bind (sliceOf? (cs_95[2]?)) fun s_98 =>
      (Option.bind (intOf? .i64 (AMem.ld r_94.2 (List.length r_22.2) 0)) fun x_99 =>
      (Option.bind (intOf? .i64 (AMem.ld r_94.2 (List.length r_22.2) 1)) fun x_100 =>
      (Option.bind (sliceOf? (AMem.ld r_94.2 (List.length r_22.2) 2)) fun s_101 =>
      (Option.bind (L.call 12 [.agg #[.int .i64 x_96, .int .i64 x_97, .slice s_98.1 s_98.2.1 s_98.2.2], .agg #[.int .i64 x_99, .int .i64 x_100, .slice s_101.1 s_101.2.1 s_101.2.2]] r_94.2) fun r_102 =>
      (Option.bind (boolOf? (some r_102.1)) fun q_103 =>
      (if q_103 = true
      then (if (q_17 == q_30) = true
        then (Option.bind (intOf? .i64 (AMem.ld r_102.2 (List.length r_40.2) 0)) fun x_104 =>
          (Option.bind (intOf? .i64 (AMem.ld r_102.2 (List.length r_40.2) 1)) fun x_105 =>
          (Option.bind (sliceOf? (AMem.ld r_102.2 (List.length r_40.2) 2)) fun s_106 =>
          (Option.bind (L.call 13 [.agg #[.int .i64 x_104, .int .i64 x_105, .slice s_106.1 s_106.2.1 s_106.2.2]] r_102.2) fun r_107 =>
          (Option.bind (aggOf? 3 r_107.1) fun cs_108 =>
          (Option.bind (intOf? .i64 (cs_108[0]?)) fun x_109 =>
          (Option.bind (intOf? .i64 (cs_108[1]?)) fun x_110 =>
          (Option.bind (sliceOf? (cs_108[2]?)) fun s_111 =>
          (Option.bind (intOf? .i64 (AMem.ld r_107.2 (List.length r_53.2) 0)) fun x_112 =>
          (Option.bind (intOf? .i64 (AMem.ld r_107.2 (List.length r_53.2) 1)) fun x_113 =>
          (Option.bind (sliceOf? (AMem.ld r_107.2 (List.length r_53.2) 2)) fun s_114 =>
          (Option.bind (L.call 12 [.agg #[.int .i64 x_109, .int .i64 x_110, .slice s_111.1 s_111.2.1 s_111.2.2], .agg #[.int .i64 x_112, .int .i64 x_113, .slice s_114.1 s_114.2.1 s_114.2.2]] r_107.2) fun r_115 =>
          (Option.bind (boolOf? (some r_115.1)) fun q_116 =>
          (if q_116 = true
          then (if (q_48 == q_61) = true
            then (Option.bind (L.call 15 [.int .i64 x3, .int .i64 x4] []) fun r_117 =>
              (Option.bind (intOf? .i64 (some r_117.1)) fun x_118 =>
              (Option.bind (L.call 20 [.int .i64 x3, .int .i64 x4] []) fun r_119 =>
              (Option.bind (intOf? .i64 (some r_119.1)) fun x_120 =>
              (if (x_118 == x_120) = true
              then (Option.bind (L.call 7 [] []) fun r_121 =>
                (Option.bind (boolOf? (some r_121.1)) fun q_122 =>
                (if chkOk [(4, 1), (4, 2), (4, 3), (10, 9), (21, 20)] [(21, (List.length r_53.2)), (10, (List.length r_22.2)), (4, x5)] [(20, (r_102.2, r_107.2)), (9, (r_89.2, r_94.2)), (3, (r_71.2, r_76.2)), (2, (r_66.2, r_71.2)), (1, (M_62, r_66.2))] = true
                then some (.bool q_122, r_115.2)
                else none)))
              else (if chkOk [(4, 1), (4, 2), (4, 3), (10, 9), (21, 20)] [(21, (List.length r_53.2)), (10, (List.length r_22.2)), (4, x5)] [(20, (r_102.2, r_107.2)), (9, (r_89.2, r_94.2)), (3, (r_71.2, r_76.2)), (2, (r_66.2, r_71.2)), (1, (M_62, r_66.2))] = true
                then some (.bool false, r_115.2)
                else none))))))
            else (if chkOk [(4, 1), (4, 2), (4, 3), (10, 9), (21, 20)] [(21, (List.length r_53.2)), (10, (List.length r_22.2)), (4, x5)] [(20, (r_102.2, r_107.2)), (9, (r_89.2, r_94.2)), (3, (r_71.2, r_76.2)), (2, (r_66.2, r_71.2)), (1, (M_62, r_66.2))] = true
              then some (.bool false, r_115.2)
              else none))
          else (if chkOk [(4, 1), (4, 2), (4, 3), (10, 9), (21, 20)] [(21, (List.length r_53.2)), (10, (List.length r_22.2)), (4, x5)] [(20, (r_102.2, r_107.2)), (9, (r_89.2, r_94.2)), (3, (r_71.2, r_76.2)), (2, (r_66.2, r_71.2)), (1, (M_62, r_66.2))] = true
            then some (.bool false, r_115.2)
            else none)))))))))))))))
        else (if chkOk [(4, 1), (4, 2), (4, 3), (10, 9), (21, 20)] [(21, (List.length r_53.2)), (10, (List.length r_22.2)), (4, x5)] [(20, (r_102.2, r_102.2)), (9, (r_89.2, r_94.2)), (3, (r_71.2, r_76.2)), (2, (r_66.2, r_71.2)), (1, (M_62, r_66.2))] = true
          then some (.bool false, r_102.2)
          else none))
      else (if chkOk [(4, 1), (4, 2), (4, 3), (10, 9), (21, 20)] [(21, (List.length r_53.2)), (10, (List.length r_22.2)), (4, x5)] [(20, (r_102.2, r_102.2)), (9, (r_89.2, r_94.2)), (3, (r_71.2, r_76.2)), (2, (r_66.2, r_71.2)), (1, (M_62, r_66.2))] = true
        then some (.bool false, r_102.2)
        else none)))))))))))))))
    else (if chkOk [(4, 1), (4, 2), (4, 3), (10, 9), (21, 20)] [(21, (List.length r_53.2)), (10, (List.length r_22.2)), (4, x5)] [(20, (r_89.2, r_89.2)), (9, (r_89.2, r_89.2)), (3, (r_71.2, r_76.2)), (2, (r_66.2, r_71.2)), (1, (M_62, r_66.2))] = true
      then some (.bool false, r_89.2)
      else none)))))))))))))))))))))))))))))))))))))))))))))))))))))))))))))))))))))))))))))))))))))))))))) := by
  subst hP5_41; kernel_rfl
theorem P5_41_eq (L : Rec) (x1 : Int) (x2 : Int) (x3 : Int) (x4 : Int) (x5 : Nat) (M : AMem) : P5_41 L x1 x2 x3 x4 x5 M =
  (Option.bind (intOf? .i64 (AMem.ld M x5 0)) fun x_1 =>
    (Option.bind (intOf? .i64 (AMem.ld M x5 1)) fun x_2 =>
    (Option.bind (sliceOf? (AMem.ld M x5 2)) fun s_3 =>
    (Option.bind (L.call 9 [.agg #[.int .i64 x_1, .int .i64 x_2, .slice s_3.1 s_3.2.1 s_3.2.2]] M) fun r_4 =>
    (Option.bind (aggOf? 3 r_4.1) fun cs_5 =>
    (Option.bind (intOf? .i64 (cs_5[0]?)) fun x_6 =>
    (Option.bind (intOf? .i64 (cs_5[1]?)) fun x_7 =>
    (Option.bind (sliceOf? (cs_5[2]?)) fun s_8 =>
    (Option.bind (L.call 11 [.agg #[.int .i64 x_6, .int .i64 x_7, .slice s_8.1 s_8.2.1 s_8.2.2], .int .i64 x3, .int .i64 x4] r_4.2) fun r_9 =>
    (Option.bind (tupOf? 2 r_9.1) fun cs_10 =>
    (Option.bind (cs_10[0]?) fun u_11 =>
    (Option.bind (aggOf? 3 u_11) fun cs_12 =>
    (Option.bind (intOf? .i64 (cs_12[0]?)) fun x_13 =>
    (Option.bind (intOf? .i64 (cs_12[1]?)) fun x_14 =>
    (Option.bind (sliceOf? (cs_12[2]?)) fun s_15 =>
    (Option.bind (cs_10[1]?) fun u_16 =>
    (Option.bind (boolOf? (some u_16)) fun q_17 =>
    (Option.bind (AMem.wr (r_9.2 ++ [AObj.cells [.int .i64 0, .int .i64 0, .slice none 0 0] ⟨false, 0⟩]) (List.length r_9.2) 0 [.int .i64 x_13, .int .i64 x_14, .slice s_15.1 s_15.2.1 s_15.2.2]) fun M_18 =>
    (Option.bind (intOf? .i64 (AMem.ld M_18 x5 0)) fun x_19 =>
    (Option.bind (intOf? .i64 (AMem.ld M_18 x5 1)) fun x_20 =>
    (Option.bind (sliceOf? (AMem.ld M_18 x5 2)) fun s_21 =>
    (Option.bind (L.call 17 [.agg #[.int .i64 x_19, .int .i64 x_20, .slice s_21.1 s_21.2.1 s_21.2.2], .int .i64 x3, .int .i64 x4] M_18) fun r_22 =>
    (Option.bind (tupOf? 2 r_22.1) fun cs_23 =>
    (Option.bind (cs_23[0]?) fun u_24 =>
    (Option.bind (aggOf? 3 u_24) fun cs_25 =>
    (Option.bind (intOf? .i64 (cs_25[0]?)) fun x_26 =>
    (Option.bind (intOf? .i64 (cs_25[1]?)) fun x_27 =>
    (Option.bind (sliceOf? (cs_25[2]?)) fun s_28 =>
    (Option.bind (cs_23[1]?) fun u_29 =>
    (Option.bind (boolOf? (some u_29)) fun q_30 =>
    (Option.bind (AMem.wr (r_22.2 ++ [AObj.cells [.int .i64 0, .int .i64 0, .slice none 0 0] ⟨false, 0⟩]) (List.length r_22.2) 0 [.int .i64 x_26, .int .i64 x_27, .slice s_28.1 s_28.2.1 s_28.2.2]) fun M_31 =>
    (Option.bind (intOf? .i64 (AMem.ld M_31 x5 0)) fun x_32 =>
    (Option.bind (intOf? .i64 (AMem.ld M_31 x5 1)) fun x_33 =>
    (Option.bind (sliceOf? (AMem.ld M_31 x5 2)) fun s_34 =>
    (Option.bind (L.call 9 [.agg #[.int .i64 x_32, .int .i64 x_33, .slice s_34.1 s_34.2.1 s_34.2.2]] M_31) fun r_35 =>
    (Option.bind (aggOf? 3 r_35.1) fun cs_36 =>
    (Option.bind (intOf? .i64 (cs_36[0]?)) fun x_37 =>
    (Option.bind (intOf? .i64 (cs_36[1]?)) fun x_38 =>
    (Option.bind (sliceOf? (cs_36[2]?)) fun s_39 =>
    (Option.bind (L.call 10 [.agg #[.int .i64 x_37, .int .i64 x_38, .slice s_39.1 s_39.2.1 s_39.2.2], .int .i64 x1, .int .i64 x2, .int .i64 x3, .int .i64 x4] r_35.2) fun r_40 =>
    (Option.bind (tupOf? 2 r_40.1) fun cs_41 =>
    (Option.bind (cs_41[0]?) fun u_42 =>
    (Option.bind (aggOf? 3 u_42) fun cs_43 =>
    (Option.bind (intOf? .i64 (cs_43[0]?)) fun x_44 =>
    (Option.bind (intOf? .i64 (cs_43[1]?)) fun x_45 =>
    (Option.bind (sliceOf? (cs_43[2]?)) fun s_46 =>
    (Option.bind (cs_41[1]?) fun u_47 =>
    (Option.bind (boolOf? (some u_47)) fun q_48 =>
    (Option.bind (AMem.wr (r_40.2 ++ [AObj.cells [.int .i64 0, .int .i64 0, .slice none 0 0] ⟨false, 0⟩]) (List.length r_40.2) 0 [.int .i64 x_44, .int .i64 x_45, .slice s_46.1 s_46.2.1 s_46.2.2]) fun M_49 =>
    (Option.bind (intOf? .i64 (AMem.ld M_49 x5 0)) fun x_50 =>
    (Option.bind (intOf? .i64 (AMem.ld M_49 x5 1)) fun x_51 =>
    (Option.bind (sliceOf? (AMem.ld M_49 x5 2)) fun s_52 =>
    (Option.bind (L.call 18 [.agg #[.int .i64 x_50, .int .i64 x_51, .slice s_52.1 s_52.2.1 s_52.2.2], .int .i64 x1, .int .i64 x2, .int .i64 x3, .int .i64 x4] M_49) fun r_53 =>
    (Option.bind (tupOf? 2 r_53.1) fun cs_54 =>
    (Option.bind (cs_54[0]?) fun u_55 =>
    (Option.bind (aggOf? 3 u_55) fun cs_56 =>
    (Option.bind (intOf? .i64 (cs_56[0]?)) fun x_57 =>
    (Option.bind (intOf? .i64 (cs_56[1]?)) fun x_58 =>
    (Option.bind (sliceOf? (cs_56[2]?)) fun s_59 =>
    (Option.bind (cs_54[1]?) fun u_60 =>
    (Option.bind (boolOf? (some u_60)) fun q_61 =>
    (Option.bind (AMem.wr (r_53.2 ++ [AObj.cells [.int .i64 0, .int .i64 0, .slice none 0 0] ⟨false, 0⟩]) (List.length r_53.2) 0 [.int .i64 x_57, .int .i64 x_58, .slice s_59.1 s_59.2.1 s_59.2.2]) fun M_62 =>
    (Option.bind (intOf? .i64 (AMem.ld M_62 x5 0)) fun x_63 =>
    (Option.bind (intOf? .i64 (AMem.ld M_62 x5 1)) fun x_64 =>
    (Option.bind (sliceOf? (AMem.ld M_62 x5 2)) fun s_65 =>
    (Option.bind (L.call 9 [.agg #[.int .i64 x_63, .int .i64 x_64, .slice s_65.1 s_65.2.1 s_65.2.2]] M_62) fun r_66 =>
    (Option.bind (aggOf? 3 r_66.1) fun cs_67 =>
    (Option.bind (intOf? .i64 (cs_67[0]?)) fun x_68 =>
    (Option.bind (intOf? .i64 (cs_67[1]?)) fun x_69 =>
    (Option.bind (sliceOf? (cs_67[2]?)) fun s_70 =>
    (Option.bind (L.call 8 [.agg #[.int .i64 x_68, .int .i64 x_69, .slice s_70.1 s_70.2.1 s_70.2.2]] r_66.2) fun r_71 =>
    (Option.bind (aggOf? 3 r_71.1) fun cs_72 =>
    (Option.bind (intOf? .i64 (cs_72[0]?)) fun x_73 =>
    (Option.bind (intOf? .i64 (cs_72[1]?)) fun x_74 =>
    (Option.bind (sliceOf? (cs_72[2]?)) fun s_75 =>
    (Option.bind (L.call 13 [.agg #[.int .i64 x_73, .int .i64 x_74, .slice s_75.1 s_75.2.1 s_75.2.2]] r_71.2) fun r_76 =>
    (Option.bind (aggOf? 3 r_76.1) fun cs_77 =>
    (Option.bind (intOf? .i64 (cs_77[0]?)) fun x_78 =>
    (Option.bind (intOf? .i64 (cs_77[1]?)) fun x_79 =>
    (Option.bind (sliceOf? (cs_77[2]?)) fun s_80 =>
    (Option.bind (intOf? .i64 (AMem.ld r_76.2 x5 0)) fun x_81 =>
    (Option.bind (intOf? .i64 (AMem.ld r_76.2 x5 1)) fun x_82 =>
    (Option.bind (sliceOf? (AMem.ld r_76.2 x5 2)) fun s_83 =>
    (Option.bind (L.call 19 [.agg #[.int .i64 x_81, .int .i64 x_82, .slice s_83.1 s_83.2.1 s_83.2.2]] r_76.2) fun r_84 =>
    (Option.bind (aggOf? 3 r_84.1) fun cs_85 =>
    (Option.bind (intOf? .i64 (cs_85[0]?)) fun x_86 =>
    (Option.bind (intOf? .i64 (cs_85[1]?)) fun x_87 =>
    (Option.bind (sliceOf? (cs_85[2]?)) fun s_88 =>
    (Option.bind (L.call 12 [.agg #[.int .i64 x_78, .int .i64 x_79, .slice s_80.1 s_80.2.1 s_80.2.2], .agg #[.int .i64 x_86, .int .i64 x_87, .slice s_88.1 s_88.2.1 s_88.2.2]] r_84.2) fun r_89 =>
    (Option.bind (boolOf? (some r_89.1)) fun q_90 =>
    (if q_90 = true
    then (Option.bind (intOf? .i64 (AMem.ld r_89.2 (List.length r_9.2) 0)) fun x_91 =>
      (Option.bind (intOf? .i64 (AMem.ld r_89.2 (List.length r_9.2) 1)) fun x_92 =>
      (Option.bind (sliceOf? (AMem.ld r_89.2 (List.length r_9.2) 2)) fun s_93 =>
      (Option.bind (L.call 13 [.agg #[.int .i64 x_91, .int .i64 x_92, .slice s_93.1 s_93.2.1 s_93.2.2]] r_89.2) fun r_94 =>
      (Option.bind (aggOf? 3 r_94.1) fun cs_95 =>
      (Option.bind (intOf? .i64 (cs_95[0]?)) fun x_96 =>
      (Option.bind (intOf? .i64 (cs_95[1]?)) fun x_97 =>
      (Option.bind (sliceOf? (cs_95[2]?)) fun s_98 =>
      (Option.bind (intOf? .i64 (AMem.ld r_94.2 (List.length r_22.2) 0)) fun x_99 =>
      (Option.bind (intOf? .i64 (AMem.ld r_94.2 (List.length r_22.2) 1)) fun x_100 =>
      (Option.bind (sliceOf? (AMem.ld r_94.2 (List.length r_22.2) 2)) fun s_101 =>
      (Option.bind (L.call 12 [.agg #[.int .i64 x_96, .int .i64 x_97, .slice s_98.1 s_98.2.1 s_98.2.2], .agg #[.int .i64 x_99, .int .i64 x_100, .slice s_101.1 s_101.2.1 s_101.2.2]] r_94.2) fun r_102 =>
      (Option.bind (boolOf? (some r_102.1)) fun q_103 =>
      (if q_103 = true
      then (if (q_17 == q_30) = true
        then (Option.bind (intOf? .i64 (AMem.ld r_102.2 (List.length r_40.2) 0)) fun x_104 =>
          (Option.bind (intOf? .i64 (AMem.ld r_102.2 (List.length r_40.2) 1)) fun x_105 =>
          (Option.bind (sliceOf? (AMem.ld r_102.2 (List.length r_40.2) 2)) fun s_106 =>
          (Option.bind (L.call 13 [.agg #[.int .i64 x_104, .int .i64 x_105, .slice s_106.1 s_106.2.1 s_106.2.2]] r_102.2) fun r_107 =>
          (Option.bind (aggOf? 3 r_107.1) fun cs_108 =>
          (Option.bind (intOf? .i64 (cs_108[0]?)) fun x_109 =>
          (Option.bind (intOf? .i64 (cs_108[1]?)) fun x_110 =>
          (Option.bind (sliceOf? (cs_108[2]?)) fun s_111 =>
          (Option.bind (intOf? .i64 (AMem.ld r_107.2 (List.length r_53.2) 0)) fun x_112 =>
          (Option.bind (intOf? .i64 (AMem.ld r_107.2 (List.length r_53.2) 1)) fun x_113 =>
          (Option.bind (sliceOf? (AMem.ld r_107.2 (List.length r_53.2) 2)) fun s_114 =>
          (Option.bind (L.call 12 [.agg #[.int .i64 x_109, .int .i64 x_110, .slice s_111.1 s_111.2.1 s_111.2.2], .agg #[.int .i64 x_112, .int .i64 x_113, .slice s_114.1 s_114.2.1 s_114.2.2]] r_107.2) fun r_115 =>
          (Option.bind (boolOf? (some r_115.1)) fun q_116 =>
          (if q_116 = true
          then (if (q_48 == q_61) = true
            then (Option.bind (L.call 15 [.int .i64 x3, .int .i64 x4] []) fun r_117 =>
              (Option.bind (intOf? .i64 (some r_117.1)) fun x_118 =>
              (Option.bind (L.call 20 [.int .i64 x3, .int .i64 x4] []) fun r_119 =>
              (Option.bind (intOf? .i64 (some r_119.1)) fun x_120 =>
              (if (x_118 == x_120) = true
              then (Option.bind (L.call 7 [] []) fun r_121 =>
                (Option.bind (boolOf? (some r_121.1)) fun q_122 =>
                (if chkOk [(4, 1), (4, 2), (4, 3), (10, 9), (21, 20)] [(21, (List.length r_53.2)), (10, (List.length r_22.2)), (4, x5)] [(20, (r_102.2, r_107.2)), (9, (r_89.2, r_94.2)), (3, (r_71.2, r_76.2)), (2, (r_66.2, r_71.2)), (1, (M_62, r_66.2))] = true
                then some (.bool q_122, r_115.2)
                else none)))
              else (if chkOk [(4, 1), (4, 2), (4, 3), (10, 9), (21, 20)] [(21, (List.length r_53.2)), (10, (List.length r_22.2)), (4, x5)] [(20, (r_102.2, r_107.2)), (9, (r_89.2, r_94.2)), (3, (r_71.2, r_76.2)), (2, (r_66.2, r_71.2)), (1, (M_62, r_66.2))] = true
                then some (.bool false, r_115.2)
                else none))))))
            else (if chkOk [(4, 1), (4, 2), (4, 3), (10, 9), (21, 20)] [(21, (List.length r_53.2)), (10, (List.length r_22.2)), (4, x5)] [(20, (r_102.2, r_107.2)), (9, (r_89.2, r_94.2)), (3, (r_71.2, r_76.2)), (2, (r_66.2, r_71.2)), (1, (M_62, r_66.2))] = true
              then some (.bool false, r_115.2)
              else none))
          else (if chkOk [(4, 1), (4, 2), (4, 3), (10, 9), (21, 20)] [(21, (List.length r_53.2)), (10, (List.length r_22.2)), (4, x5)] [(20, (r_102.2, r_107.2)), (9, (r_89.2, r_94.2)), (3, (r_71.2, r_76.2)), (2, (r_66.2, r_71.2)), (1, (M_62, r_66.2))] = true
            then some (.bool false, r_115.2)
            else none)))))))))))))))
        else (if chkOk [(4, 1), (4, 2), (4, 3), (10, 9), (21, 20)] [(21, (List.length r_53.2)), (10, (List.length r_22.2)), (4, x5)] [(20, (r_102.2, r_102.2)), (9, (r_89.2, r_94.2)), (3, (r_71.2, r_76.2)), (2, (r_66.2, r_71.2)), (1, (M_62, r_66.2))] = true
          then some (.bool false, r_102.2)
          else none))
      else (if chkOk [(4, 1), (4, 2), (4, 3), (10, 9), (21, 20)] [(21, (List.length r_53.2)), (10, (List.length r_22.2)), (4, x5)] [(20, (r_102.2, r_102.2)), (9, (r_89.2, r_94.2)), (3, (r_71.2, r_76.2)), (2, (r_66.2, r_71.2)), (1, (M_62, r_66.2))] = true
        then some (.bool false, r_102.2)
        else none)))))))))))))))
    else (if chkOk [(4, 1), (4, 2), (4, 3), (10, 9), (21, 20)] [(21, (List.length r_53.2)), (10, (List.length r_22.2)), (4, x5)] [(20, (r_89.2, r_89.2)), (9, (r_89.2, r_89.2)), (3, (r_71.2, r_76.2)), (2, (r_66.2, r_71.2)), (1, (M_62, r_66.2))] = true
      then some (.bool false, r_89.2)
      else none)))))))))))))))))))))))))))))))))))))))))))))))))))))))))))))))))))))))))))))))))))))))))))) := QP5_41_eq L P5_41 (Classical.choose_spec XP5_41) x1 x2 x3 x4 x5 M
theorem QE5 (L : Rec) (b5_24 c5_41 : ACode) (P5_24 : Rec → Int → Int → Int → Int → Nat → (Option Addr) → Nat → Nat → (Option Addr) → Nat → Nat → Int → AMem → Res) (hP5_24 : P5_24 = fun (L : Rec) (x1 : Int) (x2 : Int) (x3 : Int) (x4 : Int) (x5 : Nat) (x11 : Option Addr) (x11n : Nat) (x11c : Nat) (x12 : Option Addr) (x12n : Nat) (x12c : Nat) (x13 : Int) (M : AMem) => L.loop b5_24 (blockK 0 (seqK (code L (.clear zl18 c5_41) (retK [.tmp 10])) (retK [.tmp 10]))) (s5_24 x1 x2 x3 x4 x5 x11 x11n x11c x12 x12n x12c x13 M) M) (x0_0 : Int) (x0_1 : Int) (x0_2 : Option Addr) (x0_2n : Nat) (x0_2c : Nat) (x1 : Int) (x2 : Int) (x3 : Int) (x4 : Int) (M : AMem) : enterF L ⟨129, [.tmp 10], .seq (.ops o5_1) (.seq (.seq (.ops o5_4) (.cond (.tmp 25) (.seq (.ops o5_7) (.ret)) (.skip))) (.seq (.draw [] 0 o5_11 [(3, 1), (3, 2)]) (.seq (.seq (.ops o5_14) (.cond (.tmp 36) (.seq (.ops o5_17) (.ret)) (.skip))) (.seq (.seq (.ops o5_22) (.block 0 (.clear zl17 (.loop b5_24)))) (.clear zl18 c5_41)))))⟩ [.agg #[.int .i64 x0_0, .int .i64 x0_1, .slice x0_2 x0_2n x0_2c], .int .i64 x1, .int .i64 x2, .int .i64 x3, .int .i64 x4] M =
  (Option.bind (sliceOf? (AMem.ld (M ++ [AObj.cells [.int .i64 x0_0, .int .i64 x0_1, .slice x0_2 x0_2n x0_2c] ⟨false, 0⟩]) (List.length M) 2)) fun s_1 =>
    (if (decide ((Int.ofNat s_1.2.1) > 40)) = true
    then (Option.bind (L.call 7 [] []) fun r_2 =>
      (Option.bind (boolOf? (some r_2.1)) fun q_3 =>
      some (.bool q_3, (M ++ [AObj.cells [.int .i64 x0_0, .int .i64 x0_1, .slice x0_2 x0_2n x0_2c] ⟨false, 0⟩]))))
    else (Option.bind (intOf? .i64 (AMem.ld (M ++ [AObj.cells [.int .i64 x0_0, .int .i64 x0_1, .slice x0_2 x0_2n x0_2c] ⟨false, 0⟩]) (List.length M) 0)) fun x_4 =>
      (Option.bind (intOf? .i64 (AMem.ld (M ++ [AObj.cells [.int .i64 x0_0, .int .i64 x0_1, .slice x0_2 x0_2n x0_2c] ⟨false, 0⟩]) (List.length M) 1)) fun x_5 =>
      (Option.bind (sliceOf? (AMem.ld (M ++ [AObj.cells [.int .i64 x0_0, .int .i64 x0_1, .slice x0_2 x0_2n x0_2c] ⟨false, 0⟩]) (List.length M) 2)) fun s_6 =>
      (Option.bind (L.call 9 [.agg #[.int .i64 x_4, .int .i64 x_5, .slice s_6.1 s_6.2.1 s_6.2.2]] (M ++ [AObj.cells [.int .i64 x0_0, .int .i64 x0_1, .slice x0_2 x0_2n x0_2c] ⟨false, 0⟩])) fun r_7 =>
      (Option.bind (aggOf? 3 r_7.1) fun cs_8 =>
      (Option.bind (intOf? .i64 (cs_8[0]?)) fun x_9 =>
      (Option.bind (intOf? .i64 (cs_8[1]?)) fun x_10 =>
      (Option.bind (sliceOf? (cs_8[2]?)) fun s_11 =>
      (Option.bind (L.call 14 [.agg #[.int .i64 x_9, .int .i64 x_10, .slice s_11.1 s_11.2.1 s_11.2.2]] r_7.2) fun r_12 =>
      (Option.bind (sliceOf? (some r_12.1)) fun s_13 =>
      (Option.bind (intOf? .i64 (AMem.ld r_12.2 (List.length M) 0)) fun x_14 =>
      (Option.bind (intOf? .i64 (AMem.ld r_12.2 (List.length M) 1)) fun x_15 =>
      (Option.bind (sliceOf? (AMem.ld r_12.2 (List.length M) 2)) fun s_16 =>
      (Option.bind (L.call 16 [.agg #[.int .i64 x_14, .int .i64 x_15, .slice s_16.1 s_16.2.1 s_16.2.2]] r_12.2) fun r_17 =>
      (Option.bind (sliceOf? (some r_17.1)) fun s_18 =>
      (if chkOk [(3, 1), (3, 2)] [(3, (List.length M))] [(2, (r_7.2, r_12.2)), (1, ((M ++ [AObj.cells [.int .i64 x0_0, .int .i64 x0_1, .slice x0_2 x0_2n x0_2c] ⟨false, 0⟩]), r_7.2))] = true
      then (if ((Int.ofNat s_13.2.1) != (Int.ofNat s_18.2.1)) = true
        then some (.bool false, r_17.2)
        else P5_24 L x1 x2 x3 x4 (List.length M) s_13.1 s_13.2.1 s_13.2.2 s_18.1 s_18.2.1 s_18.2.2 0 r_17.2)
      else none)))))))))))))))))) := by
  subst hP5_24; kernel_rfl
theorem E5 (L : Rec) (x0_0 : Int) (x0_1 : Int) (x0_2 : Option Addr) (x0_2n : Nat) (x0_2c : Nat) (x1 : Int) (x2 : Int) (x3 : Int) (x4 : Int) (M : AMem) : enterF L a5 [.agg #[.int .i64 x0_0, .int .i64 x0_1, .slice x0_2 x0_2n x0_2c], .int .i64 x1, .int .i64 x2, .int .i64 x3, .int .i64 x4] M =
  (Option.bind (sliceOf? (AMem.ld (M ++ [AObj.cells [.int .i64 x0_0, .int .i64 x0_1, .slice x0_2 x0_2n x0_2c] ⟨false, 0⟩]) (List.length M) 2)) fun s_1 =>
    (if (decide ((Int.ofNat s_1.2.1) > 40)) = true
    then (Option.bind (L.call 7 [] []) fun r_2 =>
      (Option.bind (boolOf? (some r_2.1)) fun q_3 =>
      some (.bool q_3, (M ++ [AObj.cells [.int .i64 x0_0, .int .i64 x0_1, .slice x0_2 x0_2n x0_2c] ⟨false, 0⟩]))))
    else (Option.bind (intOf? .i64 (AMem.ld (M ++ [AObj.cells [.int .i64 x0_0, .int .i64 x0_1, .slice x0_2 x0_2n x0_2c] ⟨false, 0⟩]) (List.length M) 0)) fun x_4 =>
      (Option.bind (intOf? .i64 (AMem.ld (M ++ [AObj.cells [.int .i64 x0_0, .int .i64 x0_1, .slice x0_2 x0_2n x0_2c] ⟨false, 0⟩]) (List.length M) 1)) fun x_5 =>
      (Option.bind (sliceOf? (AMem.ld (M ++ [AObj.cells [.int .i64 x0_0, .int .i64 x0_1, .slice x0_2 x0_2n x0_2c] ⟨false, 0⟩]) (List.length M) 2)) fun s_6 =>
      (Option.bind (L.call 9 [.agg #[.int .i64 x_4, .int .i64 x_5, .slice s_6.1 s_6.2.1 s_6.2.2]] (M ++ [AObj.cells [.int .i64 x0_0, .int .i64 x0_1, .slice x0_2 x0_2n x0_2c] ⟨false, 0⟩])) fun r_7 =>
      (Option.bind (aggOf? 3 r_7.1) fun cs_8 =>
      (Option.bind (intOf? .i64 (cs_8[0]?)) fun x_9 =>
      (Option.bind (intOf? .i64 (cs_8[1]?)) fun x_10 =>
      (Option.bind (sliceOf? (cs_8[2]?)) fun s_11 =>
      (Option.bind (L.call 14 [.agg #[.int .i64 x_9, .int .i64 x_10, .slice s_11.1 s_11.2.1 s_11.2.2]] r_7.2) fun r_12 =>
      (Option.bind (sliceOf? (some r_12.1)) fun s_13 =>
      (Option.bind (intOf? .i64 (AMem.ld r_12.2 (List.length M) 0)) fun x_14 =>
      (Option.bind (intOf? .i64 (AMem.ld r_12.2 (List.length M) 1)) fun x_15 =>
      (Option.bind (sliceOf? (AMem.ld r_12.2 (List.length M) 2)) fun s_16 =>
      (Option.bind (L.call 16 [.agg #[.int .i64 x_14, .int .i64 x_15, .slice s_16.1 s_16.2.1 s_16.2.2]] r_12.2) fun r_17 =>
      (Option.bind (sliceOf? (some r_17.1)) fun s_18 =>
      (if chkOk [(3, 1), (3, 2)] [(3, (List.length M))] [(2, (r_7.2, r_12.2)), (1, ((M ++ [AObj.cells [.int .i64 x0_0, .int .i64 x0_1, .slice x0_2 x0_2n x0_2c] ⟨false, 0⟩]), r_7.2))] = true
      then (if ((Int.ofNat s_13.2.1) != (Int.ofNat s_18.2.1)) = true
        then some (.bool false, r_17.2)
        else P5_24 L x1 x2 x3 x4 (List.length M) s_13.1 s_13.2.1 s_13.2.2 s_18.1 s_18.2.1 s_18.2.2 0 r_17.2)
      else none)))))))))))))))))) := QE5 L b5_24 c5_41 P5_24 (Classical.choose_spec XP5_24) x0_0 x0_1 x0_2 x0_2n x0_2c x1 x2 x3 x4 M
end Go.Proofs.Ytncfdkmhpnopiaa
