/- What the pieces of some functions come to. -/
import Derived.Test.YtpnknolehckfhaaCode
set_option linter.unusedVariables false
set_option maxRecDepth 100000
namespace Go.Proofs.Ytpnknolehckfhaa
open Go Go.Ax
/-! #### skylightlaw34.sum -/
noncomputable def k16_8 (L : Rec) : KT := blockK 0 (seqK (code L (.clear zl35 c16_23) (retK [.tmp 6])) (retK [.tmp 6]))
def s16_8 (x0 : Option Addr) (x0n : Nat) (x0c : Nat) (x1 : Option Addr) (x1n : Nat) (x1c : Nat) (x2 : Bool) (x7 : Int) (x8 : Int) (M : AMem) : List Value := [.slice x0 x0n x0c, .slice x1 x1n x1c, .bool x2, junk, junk, junk, junk, .int .i64 x7, .int .i64 x8, junk, junk, junk, junk, junk, junk, junk, junk, junk, junk, junk, junk, junk, junk, junk, junk, junk, junk, junk, junk, junk, junk, junk, junk, junk, junk, junk, junk, junk, junk, junk, junk, junk, junk]
theorem XP16_8 : ∃ P : Rec → (Option Addr) → Nat → Nat → (Option Addr) → Nat → Nat → Bool → Int → Int → AMem → Res, P = fun (L : Rec) (x0 : Option Addr) (x0n : Nat) (x0c : Nat) (x1 : Option Addr) (x1n : Nat) (x1c : Nat) (x2 : Bool) (x7 : Int) (x8 : Int) (M : AMem) => L.loop b16_8 (k16_8 L) (s16_8 x0 x0n x0c x1 x1n x1c x2 x7 x8 M) M := ⟨_, rfl⟩
noncomputable def P16_8 : Rec → (Option Addr) → Nat → Nat → (Option Addr) → Nat → Nat → Bool → Int → Int → AMem → Res := Classical.choose XP16_8
noncomputable def k16_22 (L : Rec) : KT := postK zl34 (loopK L b16_8 (blockK 0 (seqK (code L (.clear zl35 c16_23) (retK [.tmp 6])) (retK [.tmp 6]))))
def s16_22 (x0 : Option Addr) (x0n : Nat) (x0c : Nat) (x1 : Option Addr) (x1n : Nat) (x1c : Nat) (x2 : Bool) (x7 : Int) (x8 : Int) (M : AMem) : List Value := [.slice x0 x0n x0c, .slice x1 x1n x1c, .bool x2, junk, junk, junk, junk, .int .i64 x7, .int .i64 x8, junk, junk, junk, junk, junk, junk, junk, junk, junk, junk, junk, junk, junk, junk, junk, junk, junk, junk, junk, junk, junk, junk, junk, junk, junk, junk, junk, junk, junk, junk, junk, junk, junk, junk]
theorem XP16_22 : ∃ P : Rec → (Option Addr) → Nat → Nat → (Option Addr) → Nat → Nat → Bool → Int → Int → AMem → Res, P = fun (L : Rec) (x0 : Option Addr) (x0n : Nat) (x0c : Nat) (x1 : Option Addr) (x1n : Nat) (x1c : Nat) (x2 : Bool) (x7 : Int) (x8 : Int) (M : AMem) => code L c16_22 (k16_22 L) (s16_22 x0 x0n x0c x1 x1n x1c x2 x7 x8 M) M := ⟨_, rfl⟩
noncomputable def P16_22 : Rec → (Option Addr) → Nat → Nat → (Option Addr) → Nat → Nat → Bool → Int → Int → AMem → Res := Classical.choose XP16_22
noncomputable def k16_23 (L : Rec) : KT := retK [.tmp 6]
def s16_23 (x7 : Int) (M : AMem) : List Value := [junk, junk, junk, junk, junk, junk, junk, .int .i64 x7, junk, junk, junk, junk, junk, junk, junk, junk, junk, junk, junk, junk, junk, junk, junk, junk, junk, junk, junk, junk, junk, junk, junk, junk, junk, junk, junk, junk, junk, junk, junk, junk, junk, junk, junk]
theorem XP16_23 : ∃ P : Rec → Int → AMem → Res, P = fun (L : Rec) (x7 : Int) (M : AMem) => code L c16_23 (k16_23 L) (s16_23 x7 M) M := ⟨_, rfl⟩
noncomputable def P16_23 : Rec → Int → AMem → Res := Classical.choose XP16_23
theorem QP16_8_eq (L : Rec) (b16_8 c16_22 c16_23 : ACode) (hb : ∀ K t A, L.loop b16_8 K t A = code L (.post (.seq (.seq (.ops o16_11) (.cond (.tmp 12) (.skip) (.exit 0))) (.seq (.block 1 (.seq (.ops o16_18) (.cond (.tmp 34) (.ops o16_20) (.skip)))) (.clear zl34 c16_22))) zl34) (loopK L b16_8 K) t A) (P16_8 : Rec → (Option Addr) → Nat → Nat → (Option Addr) → Nat → Nat → Bool → Int → Int → AMem → Res) (hP16_8 : Eq P16_8 fun L x0 x0n x0c x1 x1n x1c x2 x7 x8 M => L.loop b16_8 (blockK 0 (seqK (code L (.clear zl35 c16_23) (retK [.tmp 6])) (retK [.tmp 6]))) (s16_8 x0 x0n x0c x1 x1n x1c x2 x7 x8 M) M) (P16_22 : Rec → (Option Addr) → Nat → Nat → (Option Addr) → Nat → Nat → Bool → Int → Int → AMem → Res) (hP16_22 : Eq P16_22 fun L x0 x0n x0c x1 x1n x1c x2 x7 x8 M => code L c16_22 (postK zl34 (loopK L b16_8 (blockK 0 (seqK (code L (.clear zl35 c16_23) (retK [.tmp 6])) (retK [.tmp 6]))))) (s16_22 x0 x0n x0c x1 x1n x1c x2 x7 x8 M) M) (P16_23 : Rec → Int → AMem → Res) (hP16_23 : Eq P16_23 fun L x7 M => code L c16_23 (retK [.tmp 6]) (s16_23 x7 M) M) (x0 : Option Addr) (x0n : Nat) (x0c : Nat) (x1 : Option Addr) (x1n : Nat) (x1c : Nat) (x2 : Bool) (x7 : Int) (x8 : Int) (M : AMem) : P16_8 L x0 x0n x0c x1 x1n x1c x2 x7 x8 M =
  (if (decide (x8 < (Int.ofNat x0n))) = true
    then (if x2 = true
      then (match x0 with
        | some a_1 => (if (0 : Int) ≤ x8 ∧ x8 < (Int.ofNat x0n)
          then (Option.bind (ptrOf? (AMem.ld M a_1.block (a_1.off + ((Int.toNat x8) * 1)))) fun p_2 =>
            (Option.bind (L.call 33 [.pointer p_2] M) fun r_3 =>
            (Option.bind (boolOf? (some r_3.1)) fun q_4 =>
            (if q_4 = true
            then (match x1 with
              | some a_5 => (if (0 : Int) ≤ x8 ∧ x8 < (Int.ofNat x1n)
                then (Option.bind (intOf? .i64 (AMem.ld r_3.2 a_5.block (a_5.off + ((Int.toNat x8) * 1)))) fun x_6 =>
                  (if x_6 < 0
                  then none
                  else P16_22 L x0 x0n x0c x1 x1n x1c x2 (IntKind.wrap .i64 (x7 + (IntKind.wrap .i64 (1 * 2 ^ (min (Int.toNat x_6) (IntKind.bits .i64)))))) x8 r_3.2))
                else none)
              | none => none)
            else (if (!x2) = true
              then (match x0 with
                | some a_7 => (if (0 : Int) ≤ x8 ∧ x8 < (Int.ofNat x0n)
                  then (Option.bind (ptrOf? (AMem.ld r_3.2 a_7.block (a_7.off + ((Int.toNat x8) * 1)))) fun p_8 =>
                    (Option.bind (L.call 32 [.pointer p_8] r_3.2) fun r_9 =>
                    (Option.bind (boolOf? (some r_9.1)) fun q_10 =>
                    (if (!q_10) = true
                    then (match x1 with
                      | some a_11 => (if (0 : Int) ≤ x8 ∧ x8 < (Int.ofNat x1n)
                        then (Option.bind (intOf? .i64 (AMem.ld r_9.2 a_11.block (a_11.off + ((Int.toNat x8) * 1)))) fun x_12 =>
                          (if x_12 < 0
                          then none
                          else P16_22 L x0 x0n x0c x1 x1n x1c x2 (IntKind.wrap .i64 (x7 + (IntKind.wrap .i64 (1 * 2 ^ (min (Int.toNat x_12) (IntKind.bits .i64)))))) x8 r_9.2))
                        else none)
                      | none => none)
                    else P16_22 L x0 x0n x0c x1 x1n x1c x2 x7 x8 r_9.2))))
                  else none)
                | none => none)
              else P16_22 L x0 x0n x0c x1 x1n x1c x2 x7 x8 r_3.2)))))
          else none)
        | none => none)
      else (if (!x2) = true
        then (match x0 with
          | some a_13 => (if (0 : Int) ≤ x8 ∧ x8 < (Int.ofNat x0n)
            then (Option.bind (ptrOf? (AMem.ld M a_13.block (a_13.off + ((Int.toNat x8) * 1)))) fun p_14 =>
              (Option.bind (L.call 32 [.pointer p_14] M) fun r_15 =>
              (Option.bind (boolOf? (some r_15.1)) fun q_16 =>
              (if (!q_16) = true
              then (match x1 with
                | some a_17 => (if (0 : Int) ≤ x8 ∧ x8 < (Int.ofNat x1n)
                  then (Option.bind (intOf? .i64 (AMem.ld r_15.2 a_17.block (a_17.off + ((Int.toNat x8) * 1)))) fun x_18 =>
                    (if x_18 < 0
                    then none
                    else P16_22 L x0 x0n x0c x1 x1n x1c x2 (IntKind.wrap .i64 (x7 + (IntKind.wrap .i64 (1 * 2 ^ (min (Int.toNat x_18) (IntKind.bits .i64)))))) x8 r_15.2))
                  else none)
                | none => none)
              else P16_22 L x0 x0n x0c x1 x1n x1c x2 x7 x8 r_15.2))))
            else none)
          | none => none)
        else P16_22 L x0 x0n x0c x1 x1n x1c x2 x7 x8 M))
    else P16_23 L x7 M) := by
  subst hP16_8; subst hP16_22; subst hP16_23; exact (hb (blockK 0 (seqK (code L (.clear zl35 c16_23) (retK [.tmp 6])) (retK [.tmp 6]))) (s16_8 x0 x0n x0c x1 x1n x1c x2 x7 x8 M) M).trans (by kernel_rfl)
theorem P16_8_eq (L : Rec) (hL : ∀ b K t A, L.loop b K t A = code L b (loopK L b K) t A) (x0 : Option Addr) (x0n : Nat) (x0c : Nat) (x1 : Option Addr) (x1n : Nat) (x1c : Nat) (x2 : Bool) (x7 : Int) (x8 : Int) (M : AMem) : P16_8 L x0 x0n x0c x1 x1n x1c x2 x7 x8 M =
  (if (decide (x8 < (Int.ofNat x0n))) = true
    then (if x2 = true
      then (match x0 with
        | some a_1 => (if (0 : Int) ≤ x8 ∧ x8 < (Int.ofNat x0n)
          then (Option.bind (ptrOf? (AMem.ld M a_1.block (a_1.off + ((Int.toNat x8) * 1)))) fun p_2 =>
            (Option.bind (L.call 33 [.pointer p_2] M) fun r_3 =>
            (Option.bind (boolOf? (some r_3.1)) fun q_4 =>
            (if q_4 = true
            then (match x1 with
              | some a_5 => (if (0 : Int) ≤ x8 ∧ x8 < (Int.ofNat x1n)
                then (Option.bind (intOf? .i64 (AMem.ld r_3.2 a_5.block (a_5.off + ((Int.toNat x8) * 1)))) fun x_6 =>
                  (if x_6 < 0
                  then none
                  else P16_22 L x0 x0n x0c x1 x1n x1c x2 (IntKind.wrap .i64 (x7 + (IntKind.wrap .i64 (1 * 2 ^ (min (Int.toNat x_6) (IntKind.bits .i64)))))) x8 r_3.2))
                else none)
              | none => none)
            else (if (!x2) = true
              then (match x0 with
                | some a_7 => (if (0 : Int) ≤ x8 ∧ x8 < (Int.ofNat x0n)
                  then (Option.bind (ptrOf? (AMem.ld r_3.2 a_7.block (a_7.off + ((Int.toNat x8) * 1)))) fun p_8 =>
                    (Option.bind (L.call 32 [.pointer p_8] r_3.2) fun r_9 =>
                    (Option.bind (boolOf? (some r_9.1)) fun q_10 =>
                    (if (!q_10) = true
                    then (match x1 with
                      | some a_11 => (if (0 : Int) ≤ x8 ∧ x8 < (Int.ofNat x1n)
                        then (Option.bind (intOf? .i64 (AMem.ld r_9.2 a_11.block (a_11.off + ((Int.toNat x8) * 1)))) fun x_12 =>
                          (if x_12 < 0
                          then none
                          else P16_22 L x0 x0n x0c x1 x1n x1c x2 (IntKind.wrap .i64 (x7 + (IntKind.wrap .i64 (1 * 2 ^ (min (Int.toNat x_12) (IntKind.bits .i64)))))) x8 r_9.2))
                        else none)
                      | none => none)
                    else P16_22 L x0 x0n x0c x1 x1n x1c x2 x7 x8 r_9.2))))
                  else none)
                | none => none)
              else P16_22 L x0 x0n x0c x1 x1n x1c x2 x7 x8 r_3.2)))))
          else none)
        | none => none)
      else (if (!x2) = true
        then (match x0 with
          | some a_13 => (if (0 : Int) ≤ x8 ∧ x8 < (Int.ofNat x0n)
            then (Option.bind (ptrOf? (AMem.ld M a_13.block (a_13.off + ((Int.toNat x8) * 1)))) fun p_14 =>
              (Option.bind (L.call 32 [.pointer p_14] M) fun r_15 =>
              (Option.bind (boolOf? (some r_15.1)) fun q_16 =>
              (if (!q_16) = true
              then (match x1 with
                | some a_17 => (if (0 : Int) ≤ x8 ∧ x8 < (Int.ofNat x1n)
                  then (Option.bind (intOf? .i64 (AMem.ld r_15.2 a_17.block (a_17.off + ((Int.toNat x8) * 1)))) fun x_18 =>
                    (if x_18 < 0
                    then none
                    else P16_22 L x0 x0n x0c x1 x1n x1c x2 (IntKind.wrap .i64 (x7 + (IntKind.wrap .i64 (1 * 2 ^ (min (Int.toNat x_18) (IntKind.bits .i64)))))) x8 r_15.2))
                  else none)
                | none => none)
              else P16_22 L x0 x0n x0c x1 x1n x1c x2 x7 x8 r_15.2))))
            else none)
          | none => none)
        else P16_22 L x0 x0n x0c x1 x1n x1c x2 x7 x8 M))
    else P16_23 L x7 M) := QP16_8_eq L b16_8 c16_22 c16_23 (hL b16_8) P16_8 (Classical.choose_spec XP16_8) P16_22 (Classical.choose_spec XP16_22) P16_23 (Classical.choose_spec XP16_23) x0 x0n x0c x1 x1n x1c x2 x7 x8 M
theorem QP16_22_eq (L : Rec) (b16_8 c16_23 : ACode) (P16_8 : Rec → (Option Addr) → Nat → Nat → (Option Addr) → Nat → Nat → Bool → Int → Int → AMem → Res) (hP16_8 : Eq P16_8 fun L x0 x0n x0c x1 x1n x1c x2 x7 x8 M => L.loop b16_8 (blockK 0 (seqK (code L (.clear zl35 c16_23) (retK [.tmp 6])) (retK [.tmp 6]))) (s16_8 x0 x0n x0c x1 x1n x1c x2 x7 x8 M) M) (P16_22 : Rec → (Option Addr) → Nat → Nat → (Option Addr) → Nat → Nat → Bool → Int → Int → AMem → Res) (hP16_22 : Eq P16_22 fun L x0 x0n x0c x1 x1n x1c x2 x7 x8 M => code L (.ops o16_22) (postK zl34 (loopK L b16_8 (blockK 0 (seqK (code L (.clear zl35 c16_23) (retK [.tmp 6])) (retK [.tmp 6]))))) (s16_22 x0 x0n x0c x1 x1n x1c x2 x7 x8 M) M) (x0 : Option Addr) (x0n : Nat) (x0c : Nat) (x1 : Option Addr) (x1n : Nat) (x1c : Nat) (x2 : Bool) (x7 : Int) (x8 : Int) (M : AMem) : P16_22 L x0 x0n x0c x1 x1n x1c x2 x7 x8 M =
  P16_8 L x0 x0n x0c x1 x1n x1c x2 x7 (IntKind.wrap .i64 (x8 + 1)) M := by
  subst hP16_8; subst hP16_22; kernel_rfl
theorem P16_22_eq (L : Rec) (x0 : Option Addr) (x0n : Nat) (x0c : Nat) (x1 : Option Addr) (x1n : Nat) (x1c : Nat) (x2 : Bool) (x7 : Int) (x8 : Int) (M : AMem) : P16_22 L x0 x0n x0c x1 x1n x1c x2 x7 x8 M =
  P16_8 L x0 x0n x0c x1 x1n x1c x2 x7 (IntKind.wrap .i64 (x8 + 1)) M := QP16_22_eq L b16_8 c16_23 P16_8 (Classical.choose_spec XP16_8) P16_22 (Classical.choose_spec XP16_22) x0 x0n x0c x1 x1n x1c x2 x7 x8 M
theorem QP16_23_eq (L : Rec) (P16_23 : Rec → Int → AMem → Res) (hP16_23 : Eq P16_23 fun L x7 M => code L (.seq (.ops o16_24) (.ret)) (retK [.tmp 6]) (s16_23 x7 M) M) (x7 : Int) (M : AMem) : P16_23 L x7 M =
  some (.int .i64 x7, M) := by
  subst hP16_23; kernel_rfl
theorem P16_23_eq (L : Rec) (x7 : Int) (M : AMem) : P16_23 L x7 M =
  some (.int .i64 x7, M) := QP16_23_eq L P16_23 (Classical.choose_spec XP16_23) x7 M
theorem QE16 (L : Rec) (b16_8 c16_23 : ACode) (P16_8 : Rec → (Option Addr) → Nat → Nat → (Option Addr) → Nat → Nat → Bool → Int → Int → AMem → Res) (hP16_8 : Eq P16_8 fun L x0 x0n x0c x1 x1n x1c x2 x7 x8 M => L.loop b16_8 (blockK 0 (seqK (code L (.clear zl35 c16_23) (retK [.tmp 6])) (retK [.tmp 6]))) (s16_8 x0 x0n x0c x1 x1n x1c x2 x7 x8 M) M) (x0 : Option Addr) (x0n : Nat) (x0c : Nat) (x1 : Option Addr) (x1n : Nat) (x1c : Nat) (x2 : Bool) (M : AMem) : enterF L ⟨43, [.tmp 6], .seq (.ops o16_1) (.seq (.ops o16_3) (.seq (.seq (.ops o16_6) (.block 0 (.clear zl34 (.loop b16_8)))) (.clear zl35 c16_23)))⟩ [.slice x0 x0n x0c, .slice x1 x1n x1c, .bool x2] M =
  P16_8 L x0 x0n x0c x1 x1n x1c x2 0 0 M := by
  subst hP16_8; kernel_rfl
theorem E16 (L : Rec) (x0 : Option Addr) (x0n : Nat) (x0c : Nat) (x1 : Option Addr) (x1n : Nat) (x1c : Nat) (x2 : Bool) (M : AMem) : enterF L a16 [.slice x0 x0n x0c, .slice x1 x1n x1c, .bool x2] M =
  P16_8 L x0 x0n x0c x1 x1n x1c x2 0 0 M := QE16 L b16_8 c16_23 P16_8 (Classical.choose_spec XP16_8) x0 x0n x0c x1 x1n x1c x2 M
/-! #### skylightlaw34.quiet -/
noncomputable def k19_6 (L : Rec) : KT := blockK 0 (seqK (code L (.clear zl40 c19_23) (retK [.tmp 4])) (retK [.tmp 4]))
def s19_6 (x1 : Option Addr) (x1n : Nat) (x1c : Nat) (x2 : Nat) (x5 : Int) (M : AMem) : List Value := [junk, .slice x1 x1n x1c, .pointer (some ⟨x2, 0, none⟩), junk, junk, .int .i64 x5, junk, junk, junk, junk, junk, junk, junk, junk, junk, junk, junk, junk, junk, junk, junk, junk, junk, junk, junk, junk, junk, junk]
theorem XP19_6 : ∃ P : Rec → (Option Addr) → Nat → Nat → Nat → Int → AMem → Res, P = fun (L : Rec) (x1 : Option Addr) (x1n : Nat) (x1c : Nat) (x2 : Nat) (x5 : Int) (M : AMem) => L.loop b19_6 (k19_6 L) (s19_6 x1 x1n x1c x2 x5 M) M := ⟨_, rfl⟩
noncomputable def P19_6 : Rec → (Option Addr) → Nat → Nat → Nat → Int → AMem → Res := Classical.choose XP19_6
noncomputable def k19_22 (L : Rec) : KT := postK zl39 (loopK L b19_6 (blockK 0 (seqK (code L (.clear zl40 c19_23) (retK [.tmp 4])) (retK [.tmp 4]))))
def s19_22 (x1 : Option Addr) (x1n : Nat) (x1c : Nat) (x2 : Nat) (x5 : Int) (M : AMem) : List Value := [junk, .slice x1 x1n x1c, .pointer (some ⟨x2, 0, none⟩), junk, junk, .int .i64 x5, junk, junk, junk, junk, junk, junk, junk, junk, junk, junk, junk, junk, junk, junk, junk, junk, junk, junk, junk, junk, junk, junk]
theorem XP19_22 : ∃ P : Rec → (Option Addr) → Nat → Nat → Nat → Int → AMem → Res, P = fun (L : Rec) (x1 : Option Addr) (x1n : Nat) (x1c : Nat) (x2 : Nat) (x5 : Int) (M : AMem) => code L c19_22 (k19_22 L) (s19_22 x1 x1n x1c x2 x5 M) M := ⟨_, rfl⟩
noncomputable def P19_22 : Rec → (Option Addr) → Nat → Nat → Nat → Int → AMem → Res := Classical.choose XP19_22
noncomputable def k19_23 (L : Rec) : KT := retK [.tmp 4]
def s19_23 (x2 : Nat) (M : AMem) : List Value := [junk, junk, .pointer (some ⟨x2, 0, none⟩), junk, junk, junk, junk, junk, junk, junk, junk, junk, junk, junk, junk, junk, junk, junk, junk, junk, junk, junk, junk, junk, junk, junk, junk, junk]
theorem XP19_23 : ∃ P : Rec → Nat → AMem → Res, P = fun (L : Rec) (x2 : Nat) (M : AMem) => code L c19_23 (k19_23 L) (s19_23 x2 M) M := ⟨_, rfl⟩
noncomputable def P19_23 : Rec → Nat → AMem → Res := Classical.choose XP19_23
theorem QP19_6_eq (L : Rec) (b19_6 c19_22 c19_23 : ACode) (hb : ∀ K t A, L.loop b19_6 K t A = code L (.post (.seq (.seq (.ops o19_9) (.cond (.tmp 9) (.skip) (.exit 0))) (.seq (.block 1 (.seq (.ops o19_16) (.cond (.tmp 24) (.seq (.ops o19_19) (.ret)) (.skip)))) (.clear zl39 c19_22))) zl39) (loopK L b19_6 K) t A) (P19_6 : Rec → (Option Addr) → Nat → Nat → Nat → Int → AMem → Res) (hP19_6 : Eq P19_6 fun L x1 x1n x1c x2 x5 M => L.loop b19_6 (blockK 0 (seqK (code L (.clear zl40 c19_23) (retK [.tmp 4])) (retK [.tmp 4]))) (s19_6 x1 x1n x1c x2 x5 M) M) (P19_22 : Rec → (Option Addr) → Nat → Nat → Nat → Int → AMem → Res) (hP19_22 : Eq P19_22 fun L x1 x1n x1c x2 x5 M => code L c19_22 (postK zl39 (loopK L b19_6 (blockK 0 (seqK (code L (.clear zl40 c19_23) (retK [.tmp 4])) (retK [.tmp 4]))))) (s19_22 x1 x1n x1c x2 x5 M) M) (P19_23 : Rec → Nat → AMem → Res) (hP19_23 : Eq P19_23 fun L x2 M => code L c19_23 (retK [.tmp 4]) (s19_23 x2 M) M) (x1 : Option Addr) (x1n : Nat) (x1c : Nat) (x2 : Nat) (x5 : Int) (M : AMem) : P19_6 L x1 x1n x1c x2 x5 M =
  (if (decide (x5 < (Int.ofNat x1n))) = true
    then (match x1 with
      | some a_1 => (if (0 : Int) ≤ x5 ∧ x5 < (Int.ofNat x1n)
        then (Option.bind (ptrOf? (AMem.ld M a_1.block (a_1.off + ((Int.toNat x5) * 1)))) fun p_2 =>
          (Option.bind (L.call 32 [.pointer p_2] M) fun r_3 =>
          (Option.bind (boolOf? (some r_3.1)) fun q_4 =>
          (if q_4 = true
          then (match x1 with
            | some a_5 => (if (0 : Int) ≤ x5 ∧ x5 < (Int.ofNat x1n)
              then (Option.bind (ptrOf? (AMem.ld r_3.2 a_5.block (a_5.off + ((Int.toNat x5) * 1)))) fun p_6 =>
                (Option.bind (L.call 33 [.pointer p_6] r_3.2) fun r_7 =>
                (Option.bind (boolOf? (some r_7.1)) fun q_8 =>
                (if (!q_8) = true
                then some (.bool false, r_7.2)
                else P19_22 L x1 x1n x1c x2 x5 r_7.2))))
              else none)
            | none => none)
          else P19_22 L x1 x1n x1c x2 x5 r_3.2))))
        else none)
      | none => none)
    else P19_23 L x2 M) := by
  subst hP19_6; subst hP19_22; subst hP19_23; exact (hb (blockK 0 (seqK (code L (.clear zl40 c19_23) (retK [.tmp 4])) (retK [.tmp 4]))) (s19_6 x1 x1n x1c x2 x5 M) M).trans (by kernel_rfl)
theorem P19_6_eq (L : Rec) (hL : ∀ b K t A, L.loop b K t A = code L b (loopK L b K) t A) (x1 : Option Addr) (x1n : Nat) (x1c : Nat) (x2 : Nat) (x5 : Int) (M : AMem) : P19_6 L x1 x1n x1c x2 x5 M =
  (if (decide (x5 < (Int.ofNat x1n))) = true
    then (match x1 with
      | some a_1 => (if (0 : Int) ≤ x5 ∧ x5 < (Int.ofNat x1n)
        then (Option.bind (ptrOf? (AMem.ld M a_1.block (a_1.off + ((Int.toNat x5) * 1)))) fun p_2 =>
          (Option.bind (L.call 32 [.pointer p_2] M) fun r_3 =>
          (Option.bind (boolOf? (some r_3.1)) fun q_4 =>
          (if q_4 = true
          then (match x1 with
            | some a_5 => (if (0 : Int) ≤ x5 ∧ x5 < (Int.ofNat x1n)
              then (Option.bind (ptrOf? (AMem.ld r_3.2 a_5.block (a_5.off + ((Int.toNat x5) * 1)))) fun p_6 =>
                (Option.bind (L.call 33 [.pointer p_6] r_3.2) fun r_7 =>
                (Option.bind (boolOf? (some r_7.1)) fun q_8 =>
                (if (!q_8) = true
                then some (.bool false, r_7.2)
                else P19_22 L x1 x1n x1c x2 x5 r_7.2))))
              else none)
            | none => none)
          else P19_22 L x1 x1n x1c x2 x5 r_3.2))))
        else none)
      | none => none)
    else P19_23 L x2 M) := QP19_6_eq L b19_6 c19_22 c19_23 (hL b19_6) P19_6 (Classical.choose_spec XP19_6) P19_22 (Classical.choose_spec XP19_22) P19_23 (Classical.choose_spec XP19_23) x1 x1n x1c x2 x5 M
theorem QP19_22_eq (L : Rec) (b19_6 c19_23 : ACode) (P19_6 : Rec → (Option Addr) → Nat → Nat → Nat → Int → AMem → Res) (hP19_6 : Eq P19_6 fun L x1 x1n x1c x2 x5 M => L.loop b19_6 (blockK 0 (seqK (code L (.clear zl40 c19_23) (retK [.tmp 4])) (retK [.tmp 4]))) (s19_6 x1 x1n x1c x2 x5 M) M) (P19_22 : Rec → (Option Addr) → Nat → Nat → Nat → Int → AMem → Res) (hP19_22 : Eq P19_22 fun L x1 x1n x1c x2 x5 M => code L (.ops o19_22) (postK zl39 (loopK L b19_6 (blockK 0 (seqK (code L (.clear zl40 c19_23) (retK [.tmp 4])) (retK [.tmp 4]))))) (s19_22 x1 x1n x1c x2 x5 M) M) (x1 : Option Addr) (x1n : Nat) (x1c : Nat) (x2 : Nat) (x5 : Int) (M : AMem) : P19_22 L x1 x1n x1c x2 x5 M =
  P19_6 L x1 x1n x1c x2 (IntKind.wrap .i64 (x5 + 1)) M := by
  subst hP19_6; subst hP19_22; kernel_rfl
theorem P19_22_eq (L : Rec) (x1 : Option Addr) (x1n : Nat) (x1c : Nat) (x2 : Nat) (x5 : Int) (M : AMem) : P19_22 L x1 x1n x1c x2 x5 M =
  P19_6 L x1 x1n x1c x2 (IntKind.wrap .i64 (x5 + 1)) M := QP19_22_eq L b19_6 c19_23 P19_6 (Classical.choose_spec XP19_6) P19_22 (Classical.choose_spec XP19_22) x1 x1n x1c x2 x5 M
theorem QP19_23_eq (L : Rec) (P19_23 : Rec → Nat → AMem → Res) (hP19_23 : Eq P19_23 fun L x2 M => code L (.seq (.ops o19_24) (.ret)) (retK [.tmp 4]) (s19_23 x2 M) M) (x2 : Nat) (M : AMem) : P19_23 L x2 M =
  (Option.bind (intOf? .i64 (AMem.ld M x2 1)) fun x_1 =>
    some (.bool (decide (x_1 > 0)), M)) := by
  subst hP19_23; kernel_rfl
theorem P19_23_eq (L : Rec) (x2 : Nat) (M : AMem) : P19_23 L x2 M =
  (Option.bind (intOf? .i64 (AMem.ld M x2 1)) fun x_1 =>
    some (.bool (decide (x_1 > 0)), M)) := QP19_23_eq L P19_23 (Classical.choose_spec XP19_23) x2 M
theorem QE19 (L : Rec) (b19_6 c19_23 : ACode) (P19_6 : Rec → (Option Addr) → Nat → Nat → Nat → Int → AMem → Res) (hP19_6 : Eq P19_6 fun L x1 x1n x1c x2 x5 M => L.loop b19_6 (blockK 0 (seqK (code L (.clear zl40 c19_23) (retK [.tmp 4])) (retK [.tmp 4]))) (s19_6 x1 x1n x1c x2 x5 M) M) (x0_0 : Int) (x0_1 : Int) (x1 : Option Addr) (x1n : Nat) (x1c : Nat) (M : AMem) : enterF L ⟨28, [.tmp 4], .seq (.ops o19_1) (.seq (.seq (.ops o19_4) (.block 0 (.clear zl39 (.loop b19_6)))) (.clear zl40 c19_23))⟩ [.agg #[.int .i64 x0_0, .int .i64 x0_1], .slice x1 x1n x1c] M =
  P19_6 L x1 x1n x1c (List.length M) 0 (M ++ [AObj.cells [.int .i64 x0_0, .int .i64 x0_1] ⟨false, 0⟩]) := by
  subst hP19_6; kernel_rfl
theorem E19 (L : Rec) (x0_0 : Int) (x0_1 : Int) (x1 : Option Addr) (x1n : Nat) (x1c : Nat) (M : AMem) : enterF L a19 [.agg #[.int .i64 x0_0, .int .i64 x0_1], .slice x1 x1n x1c] M =
  P19_6 L x1 x1n x1c (List.length M) 0 (M ++ [AObj.cells [.int .i64 x0_0, .int .i64 x0_1] ⟨false, 0⟩]) := QE19 L b19_6 c19_23 P19_6 (Classical.choose_spec XP19_6) x0_0 x0_1 x1 x1n x1c M
/-! #### skylightlaw34.whole -/
noncomputable def k22_6 (L : Rec) : KT := blockK 0 (seqK (code L (.clear zl47 c22_71) (retK [.tmp 10])) (retK [.tmp 10]))
def s22_6 (x1 : Option Addr) (x1n : Nat) (x1c : Nat) (x2 : Option Addr) (x2n : Nat) (x2c : Nat) (x3 : Int) (x4 : Int) (x5 : Nat) (x11 : Int) (M : AMem) : List Value := [junk, .slice x1 x1n x1c, .slice x2 x2n x2c, .int .i64 x3, .int .i64 x4, .pointer (some ⟨x5, 0, none⟩), junk, junk, junk, junk, junk, .int .i64 x11, junk, junk, junk, junk, junk, junk, junk, junk, junk, junk, junk, junk, junk, junk, junk, junk, junk, junk, junk, junk, junk, junk, junk, junk, junk, junk, junk, junk, junk, junk, junk, junk, junk, junk, junk, junk, junk, junk, junk, junk, junk, junk, junk, junk, junk, junk, junk, junk, junk, junk, junk, junk, junk, junk, junk, junk, junk, junk, junk, junk, junk, junk, junk, junk, junk, junk, junk, junk, junk, junk, junk, junk, junk, junk, junk, junk, junk, junk, junk, junk, junk, junk, junk, junk, junk, junk, junk, junk, junk, junk, junk, junk, junk, junk, junk, junk, junk, junk, junk, junk, junk, junk, junk, junk]
theorem XP22_6 : ∃ P : Rec → (Option Addr) → Nat → Nat → (Option Addr) → Nat → Nat → Int → Int → Nat → Int → AMem → Res, P = fun (L : Rec) (x1 : Option Addr) (x1n : Nat) (x1c : Nat) (x2 : Option Addr) (x2n : Nat) (x2c : Nat) (x3 : Int) (x4 : Int) (x5 : Nat) (x11 : Int) (M : AMem) => L.loop b22_6 (k22_6 L) (s22_6 x1 x1n x1c x2 x2n x2c x3 x4 x5 x11 M) M := ⟨_, rfl⟩
noncomputable def P22_6 : Rec → (Option Addr) → Nat → Nat → (Option Addr) → Nat → Nat → Int → Int → Nat → Int → AMem → Res := Classical.choose XP22_6
noncomputable def k22_70 (L : Rec) : KT := postK zl46 (loopK L b22_6 (blockK 0 (seqK (code L (.clear zl47 c22_71) (retK [.tmp 10])) (retK [.tmp 10]))))
def s22_70 (x1 : Option Addr) (x1n : Nat) (x1c : Nat) (x2 : Option Addr) (x2n : Nat) (x2c : Nat) (x3 : Int) (x4 : Int) (x5 : Nat) (x11 : Int) (M : AMem) : List Value := [junk, .slice x1 x1n x1c, .slice x2 x2n x2c, .int .i64 x3, .int .i64 x4, .pointer (some ⟨x5, 0, none⟩), junk, junk, junk, junk, junk, .int .i64 x11, junk, junk, junk, junk, junk, junk, junk, junk, junk, junk, junk, junk, junk, junk, junk, junk, junk, junk, junk, junk, junk, junk, junk, junk, junk, junk, junk, junk, junk, junk, junk, junk, junk, junk, junk, junk, junk, junk, junk, junk, junk, junk, junk, junk, junk, junk, junk, junk, junk, junk, junk, junk, junk, junk, junk, junk, junk, junk, junk, junk, junk, junk, junk, junk, junk, junk, junk, junk, junk, junk, junk, junk, junk, junk, junk, junk, junk, junk, junk, junk, junk, junk, junk, junk, junk, junk, junk, junk, junk, junk, junk, junk, junk, junk, junk, junk, junk, junk, junk, junk, junk, junk, junk, junk]
theorem XP22_70 : ∃ P : Rec → (Option Addr) → Nat → Nat → (Option Addr) → Nat → Nat → Int → Int → Nat → Int → AMem → Res, P = fun (L : Rec) (x1 : Option Addr) (x1n : Nat) (x1c : Nat) (x2 : Option Addr) (x2n : Nat) (x2c : Nat) (x3 : Int) (x4 : Int) (x5 : Nat) (x11 : Int) (M : AMem) => code L c22_70 (k22_70 L) (s22_70 x1 x1n x1c x2 x2n x2c x3 x4 x5 x11 M) M := ⟨_, rfl⟩
noncomputable def P22_70 : Rec → (Option Addr) → Nat → Nat → (Option Addr) → Nat → Nat → Int → Int → Nat → Int → AMem → Res := Classical.choose XP22_70
noncomputable def k22_27 (L : Rec) : KT := blockK 2 (seqK (code L (.clear zl45 c22_63) (blockK 1 (seqK (code L (.clear zl46 c22_70) (postK zl46 (loopK L b22_6 (blockK 0 (seqK (code L (.clear zl47 c22_71) (retK [.tmp 10])) (retK [.tmp 10])))))) (postK zl46 (loopK L b22_6 (blockK 0 (seqK (code L (.clear zl47 c22_71) (retK [.tmp 10])) (retK [.tmp 10])))))))) (blockK 1 (seqK (code L (.clear zl46 c22_70) (postK zl46 (loopK L b22_6 (blockK 0 (seqK (code L (.clear zl47 c22_71) (retK [.tmp 10])) (retK [.tmp 10])))))) (postK zl46 (loopK L b22_6 (blockK 0 (seqK (code L (.clear zl47 c22_71) (retK [.tmp 10])) (retK [.tmp 10]))))))))
def s22_27 (x1 : Option Addr) (x1n : Nat) (x1c : Nat) (x2 : Option Addr) (x2n : Nat) (x2c : Nat) (x3 : Int) (x4 : Int) (x5 : Nat) (x11 : Int) (x12 : Nat) (x12n : Nat) (x13 : Int) (M : AMem) : List Value := [junk, .slice x1 x1n x1c, .slice x2 x2n x2c, .int .i64 x3, .int .i64 x4, .pointer (some ⟨x5, 0, none⟩), junk, junk, junk, junk, junk, .int .i64 x11, .slice (some ⟨x12, 0, none⟩) x12n 3, .int .i64 x13, junk, junk, junk, junk, junk, junk, junk, junk, junk, junk, junk, junk, junk, junk, junk, junk, junk, junk, junk, junk, junk, junk, junk, junk, junk, junk, junk, junk, junk, junk, junk, junk, junk, junk, junk, junk, junk, junk, junk, junk, junk, junk, junk, junk, junk, junk, junk, junk, junk, junk, junk, junk, junk, junk, junk, junk, junk, junk, junk, junk, junk, junk, junk, junk, junk, junk, junk, junk, junk, junk, junk, junk, junk, junk, junk, junk, junk, junk, junk, junk, junk, junk, junk, junk, junk, junk, junk, junk, junk, junk, junk, junk, junk, junk, junk, junk, junk, junk, junk, junk, junk, junk]
theorem XP22_27 : ∃ P : Rec → (Option Addr) → Nat → Nat → (Option Addr) → Nat → Nat → Int → Int → Nat → Int → Nat → Nat → Int → AMem → Res, P = fun (L : Rec) (x1 : Option Addr) (x1n : Nat) (x1c : Nat) (x2 : Option Addr) (x2n : Nat) (x2c : Nat) (x3 : Int) (x4 : Int) (x5 : Nat) (x11 : Int) (x12 : Nat) (x12n : Nat) (x13 : Int) (M : AMem) => L.loop b22_27 (k22_27 L) (s22_27 x1 x1n x1c x2 x2n x2c x3 x4 x5 x11 x12 x12n x13 M) M := ⟨_, rfl⟩
noncomputable def P22_27 : Rec → (Option Addr) → Nat → Nat → (Option Addr) → Nat → Nat → Int → Int → Nat → Int → Nat → Nat → Int → AMem → Res := Classical.choose XP22_27
noncomputable def k22_71 (L : Rec) : KT := retK [.tmp 10]
def s22_71 (M : AMem) : List Value := [junk, junk, junk, junk, junk, junk, junk, junk, junk, junk, junk, junk, junk, junk, junk, junk, junk, junk, junk, junk, junk, junk, junk, junk, junk, junk, junk, junk, junk, junk, junk, junk, junk, junk, junk, junk, junk, junk, junk, junk, junk, junk, junk, junk, junk, junk, junk, junk, junk, junk, junk, junk, junk, junk, junk, junk, junk, junk, junk, junk, junk, junk, junk, junk, junk, junk, junk, junk, junk, junk, junk, junk, junk, junk, junk, junk, junk, junk, junk, junk, junk, junk, junk, junk, junk, junk, junk, junk, junk, junk, junk, junk, junk, junk, junk, junk, junk, junk, junk, junk, junk, junk, junk, junk, junk, junk, junk, junk, junk, junk, junk, junk, junk, junk, junk, junk]
theorem XP22_71 : ∃ P : Rec → AMem → Res, P = fun (L : Rec) (M : AMem) => code L c22_71 (k22_71 L) (s22_71 M) M := ⟨_, rfl⟩
noncomputable def P22_71 : Rec → AMem → Res := Classical.choose XP22_71
noncomputable def k22_41 (L : Rec) : KT := seqK (code L (.seq (.ops o22_45) (.block 4 (.clear zl42 (.loop b22_47)))) (blockK 3 (seqK (code L (.clear zl44 c22_62) (postK zl44 (loopK L b22_27 (blockK 2 (seqK (code L (.clear zl45 c22_63) (blockK 1 (seqK (code L (.clear zl46 c22_70) (postK zl46 (loopK L b22_6 (blockK 0 (seqK (code L (.clear zl47 c22_71) (retK [.tmp 10])) (retK [.tmp 10])))))) (postK zl46 (loopK L b22_6 (blockK 0 (seqK (code L (.clear zl47 c22_71) (retK [.tmp 10])) (retK [.tmp 10])))))))) (blockK 1 (seqK (code L (.clear zl46 c22_70) (postK zl46 (loopK L b22_6 (blockK 0 (seqK (code L (.clear zl47 c22_71) (retK [.tmp 10])) (retK [.tmp 10])))))) (postK zl46 (loopK L b22_6 (blockK 0 (seqK (code L (.clear zl47 c22_71) (retK [.tmp 10])) (retK [.tmp 10])))))))))))) (postK zl44 (loopK L b22_27 (blockK 2 (seqK (code L (.clear zl45 c22_63) (blockK 1 (seqK (code L (.clear zl46 c22_70) (postK zl46 (loopK L b22_6 (blockK 0 (seqK (code L (.clear zl47 c22_71) (retK [.tmp 10])) (retK [.tmp 10])))))) (postK zl46 (loopK L b22_6 (blockK 0 (seqK (code L (.clear zl47 c22_71) (retK [.tmp 10])) (retK [.tmp 10])))))))) (blockK 1 (seqK (code L (.clear zl46 c22_70) (postK zl46 (loopK L b22_6 (blockK 0 (seqK (code L (.clear zl47 c22_71) (retK [.tmp 10])) (retK [.tmp 10])))))) (postK zl46 (loopK L b22_6 (blockK 0 (seqK (code L (.clear zl47 c22_71) (retK [.tmp 10])) (retK [.tmp 10])))))))))))))) (blockK 3 (seqK (code L (.clear zl44 c22_62) (postK zl44 (loopK L b22_27 (blockK 2 (seqK (code L (.clear zl45 c22_63) (blockK 1 (seqK (code L (.clear zl46 c22_70) (postK zl46 (loopK L b22_6 (blockK 0 (seqK (code L (.clear zl47 c22_71) (retK [.tmp 10])) (retK [.tmp 10])))))) (postK zl46 (loopK L b22_6 (blockK 0 (seqK (code L (.clear zl47 c22_71) (retK [.tmp 10])) (retK [.tmp 10])))))))) (blockK 1 (seqK (code L (.clear zl46 c22_70) (postK zl46 (loopK L b22_6 (blockK 0 (seqK (code L (.clear zl47 c22_71) (retK [.tmp 10])) (retK [.tmp 10])))))) (postK zl46 (loopK L b22_6 (blockK 0 (seqK (code L (.clear zl47 c22_71) (retK [.tmp 10])) (retK [.tmp 10])))))))))))) (postK zl44 (loopK L b22_27 (blockK 2 (seqK (code L (.clear zl45 c22_63) (blockK 1 (seqK (code L (.clear zl46 c22_70) (postK zl46 (loopK L b22_6 (blockK 0 (seqK (code L (.clear zl47 c22_71) (retK [.tmp 10])) (retK [.tmp 10])))))) (postK zl46 (loopK L b22_6 (blockK 0 (seqK (code L (.clear zl47 c22_71) (retK [.tmp 10])) (retK [.tmp 10])))))))) (blockK 1 (seqK (code L (.clear zl46 c22_70) (postK zl46 (loopK L b22_6 (blockK 0 (seqK (code L (.clear zl47 c22_71) (retK [.tmp 10])) (retK [.tmp 10])))))) (postK zl46 (loopK L b22_6 (blockK 0 (seqK (code L (.clear zl47 c22_71) (retK [.tmp 10])) (retK [.tmp 10])))))))))))))
def s22_41 (x1 : Option Addr) (x1n : Nat) (x1c : Nat) (x2 : Option Addr) (x2n : Nat) (x2c : Nat) (x3 : Int) (x4 : Int) (x5 : Nat) (x11 : Int) (x12 : Nat) (x12n : Nat) (x13 : Int) (x66 : Bool) (M : AMem) : List Value := [junk, .slice x1 x1n x1c, .slice x2 x2n x2c, .int .i64 x3, .int .i64 x4, .pointer (some ⟨x5, 0, none⟩), junk, junk, junk, junk, junk, .int .i64 x11, .slice (some ⟨x12, 0, none⟩) x12n 3, .int .i64 x13, junk, junk, junk, junk, junk, junk, junk, junk, junk, junk, junk, junk, junk, junk, junk, junk, junk, junk, junk, junk, junk, junk, junk, junk, junk, junk, junk, junk, junk, junk, junk, junk, junk, junk, junk, junk, junk, junk, junk, junk, junk, junk, junk, junk, junk, junk, junk, junk, junk, junk, junk, junk, .bool x66, junk, junk, junk, junk, junk, junk, junk, junk, junk, junk, junk, junk, junk, junk, junk, junk, junk, junk, junk, junk, junk, junk, junk, junk, junk, junk, junk, junk, junk, junk, junk, junk, junk, junk, junk, junk, junk, junk, junk, junk, junk, junk, junk, junk, junk, junk, junk, junk, junk]
theorem XP22_41 : ∃ P : Rec → (Option Addr) → Nat → Nat → (Option Addr) → Nat → Nat → Int → Int → Nat → Int → Nat → Nat → Int → Bool → AMem → Res, P = fun (L : Rec) (x1 : Option Addr) (x1n : Nat) (x1c : Nat) (x2 : Option Addr) (x2n : Nat) (x2c : Nat) (x3 : Int) (x4 : Int) (x5 : Nat) (x11 : Int) (x12 : Nat) (x12n : Nat) (x13 : Int) (x66 : Bool) (M : AMem) => code L c22_41 (k22_41 L) (s22_41 x1 x1n x1c x2 x2n x2c x3 x4 x5 x11 x12 x12n x13 x66 M) M := ⟨_, rfl⟩
noncomputable def P22_41 : Rec → (Option Addr) → Nat → Nat → (Option Addr) → Nat → Nat → Int → Int → Nat → Int → Nat → Nat → Int → Bool → AMem → Res := Classical.choose XP22_41
noncomputable def k22_63 (L : Rec) : KT := blockK 1 (seqK (code L (.clear zl46 c22_70) (postK zl46 (loopK L b22_6 (blockK 0 (seqK (code L (.clear zl47 c22_71) (retK [.tmp 10])) (retK [.tmp 10])))))) (postK zl46 (loopK L b22_6 (blockK 0 (seqK (code L (.clear zl47 c22_71) (retK [.tmp 10])) (retK [.tmp 10]))))))
def s22_63 (x1 : Option Addr) (x1n : Nat) (x1c : Nat) (x2 : Option Addr) (x2n : Nat) (x2c : Nat) (x3 : Int) (x4 : Int) (x5 : Nat) (x11 : Int) (x12 : Nat) (x12n : Nat) (M : AMem) : List Value := [junk, .slice x1 x1n x1c, .slice x2 x2n x2c, .int .i64 x3, .int .i64 x4, .pointer (some ⟨x5, 0, none⟩), junk, junk, junk, junk, junk, .int .i64 x11, .slice (some ⟨x12, 0, none⟩) x12n 3, junk, junk, junk, junk, junk, junk, junk, junk, junk, junk, junk, junk, junk, junk, junk, junk, junk, junk, junk, junk, junk, junk, junk, junk, junk, junk, junk, junk, junk, junk, junk, junk, junk, junk, junk, junk, junk, junk, junk, junk, junk, junk, junk, junk, junk, junk, junk, junk, junk, junk, junk, junk, junk, junk, junk, junk, junk, junk, junk, junk, junk, junk, junk, junk, junk, junk, junk, junk, junk, junk, junk, junk, junk, junk, junk, junk, junk, junk, junk, junk, junk, junk, junk, junk, junk, junk, junk, junk, junk, junk, junk, junk, junk, junk, junk, junk, junk, junk, junk, junk, junk, junk, junk]
theorem XP22_63 : ∃ P : Rec → (Option Addr) → Nat → Nat → (Option Addr) → Nat → Nat → Int → Int → Nat → Int → Nat → Nat → AMem → Res, P = fun (L : Rec) (x1 : Option Addr) (x1n : Nat) (x1c : Nat) (x2 : Option Addr) (x2n : Nat) (x2c : Nat) (x3 : Int) (x4 : Int) (x5 : Nat) (x11 : Int) (x12 : Nat) (x12n : Nat) (M : AMem) => code L c22_63 (k22_63 L) (s22_63 x1 x1n x1c x2 x2n x2c x3 x4 x5 x11 x12 x12n M) M := ⟨_, rfl⟩
noncomputable def P22_63 : Rec → (Option Addr) → Nat → Nat → (Option Addr) → Nat → Nat → Int → Int → Nat → Int → Nat → Nat → AMem → Res := Classical.choose XP22_63
noncomputable def k22_62 (L : Rec) : KT := postK zl44 (loopK L b22_27 (blockK 2 (seqK (code L (.clear zl45 c22_63) (blockK 1 (seqK (code L (.clear zl46 c22_70) (postK zl46 (loopK L b22_6 (blockK 0 (seqK (code L (.clear zl47 c22_71) (retK [.tmp 10])) (retK [.tmp 10])))))) (postK zl46 (loopK L b22_6 (blockK 0 (seqK (code L (.clear zl47 c22_71) (retK [.tmp 10])) (retK [.tmp 10])))))))) (blockK 1 (seqK (code L (.clear zl46 c22_70) (postK zl46 (loopK L b22_6 (blockK 0 (seqK (code L (.clear zl47 c22_71) (retK [.tmp 10])) (retK [.tmp 10])))))) (postK zl46 (loopK L b22_6 (blockK 0 (seqK (code L (.clear zl47 c22_71) (retK [.tmp 10])) (retK [.tmp 10]))))))))))
def s22_62 (x1 : Option Addr) (x1n : Nat) (x1c : Nat) (x2 : Option Addr) (x2n : Nat) (x2c : Nat) (x3 : Int) (x4 : Int) (x5 : Nat) (x11 : Int) (x12 : Nat) (x12n : Nat) (x13 : Int) (M : AMem) : List Value := [junk, .slice x1 x1n x1c, .slice x2 x2n x2c, .int .i64 x3, .int .i64 x4, .pointer (some ⟨x5, 0, none⟩), junk, junk, junk, junk, junk, .int .i64 x11, .slice (some ⟨x12, 0, none⟩) x12n 3, .int .i64 x13, junk, junk, junk, junk, junk, junk, junk, junk, junk, junk, junk, junk, junk, junk, junk, junk, junk, junk, junk, junk, junk, junk, junk, junk, junk, junk, junk, junk, junk, junk, junk, junk, junk, junk, junk, junk, junk, junk, junk, junk, junk, junk, junk, junk, junk, junk, junk, junk, junk, junk, junk, junk, junk, junk, junk, junk, junk, junk, junk, junk, junk, junk, junk, junk, junk, junk, junk, junk, junk, junk, junk, junk, junk, junk, junk, junk, junk, junk, junk, junk, junk, junk, junk, junk, junk, junk, junk, junk, junk, junk, junk, junk, junk, junk, junk, junk, junk, junk, junk, junk, junk, junk]
theorem XP22_62 : ∃ P : Rec → (Option Addr) → Nat → Nat → (Option Addr) → Nat → Nat → Int → Int → Nat → Int → Nat → Nat → Int → AMem → Res, P = fun (L : Rec) (x1 : Option Addr) (x1n : Nat) (x1c : Nat) (x2 : Option Addr) (x2n : Nat) (x2c : Nat) (x3 : Int) (x4 : Int) (x5 : Nat) (x11 : Int) (x12 : Nat) (x12n : Nat) (x13 : Int) (M : AMem) => code L c22_62 (k22_62 L) (s22_62 x1 x1n x1c x2 x2n x2c x3 x4 x5 x11 x12 x12n x13 M) M := ⟨_, rfl⟩
noncomputable def P22_62 : Rec → (Option Addr) → Nat → Nat → (Option Addr) → Nat → Nat → Int → Int → Nat → Int → Nat → Nat → Int → AMem → Res := Classical.choose XP22_62
noncomputable def k22_47 (L : Rec) : KT := blockK 4 (blockK 3 (seqK (code L (.clear zl44 c22_62) (postK zl44 (loopK L b22_27 (blockK 2 (seqK (code L (.clear zl45 c22_63) (blockK 1 (seqK (code L (.clear zl46 c22_70) (postK zl46 (loopK L b22_6 (blockK 0 (seqK (code L (.clear zl47 c22_71) (retK [.tmp 10])) (retK [.tmp 10])))))) (postK zl46 (loopK L b22_6 (blockK 0 (seqK (code L (.clear zl47 c22_71) (retK [.tmp 10])) (retK [.tmp 10])))))))) (blockK 1 (seqK (code L (.clear zl46 c22_70) (postK zl46 (loopK L b22_6 (blockK 0 (seqK (code L (.clear zl47 c22_71) (retK [.tmp 10])) (retK [.tmp 10])))))) (postK zl46 (loopK L b22_6 (blockK 0 (seqK (code L (.clear zl47 c22_71) (retK [.tmp 10])) (retK [.tmp 10])))))))))))) (postK zl44 (loopK L b22_27 (blockK 2 (seqK (code L (.clear zl45 c22_63) (blockK 1 (seqK (code L (.clear zl46 c22_70) (postK zl46 (loopK L b22_6 (blockK 0 (seqK (code L (.clear zl47 c22_71) (retK [.tmp 10])) (retK [.tmp 10])))))) (postK zl46 (loopK L b22_6 (blockK 0 (seqK (code L (.clear zl47 c22_71) (retK [.tmp 10])) (retK [.tmp 10])))))))) (blockK 1 (seqK (code L (.clear zl46 c22_70) (postK zl46 (loopK L b22_6 (blockK 0 (seqK (code L (.clear zl47 c22_71) (retK [.tmp 10])) (retK [.tmp 10])))))) (postK zl46 (loopK L b22_6 (blockK 0 (seqK (code L (.clear zl47 c22_71) (retK [.tmp 10])) (retK [.tmp 10])))))))))))))
def s22_47 (x1 : Option Addr) (x1n : Nat) (x1c : Nat) (x2 : Option Addr) (x2n : Nat) (x2c : Nat) (x3 : Int) (x4 : Int) (x5 : Nat) (x11 : Int) (x12 : Nat) (x12n : Nat) (x13 : Int) (x16 : Int) (M : AMem) : List Value := [junk, .slice x1 x1n x1c, .slice x2 x2n x2c, .int .i64 x3, .int .i64 x4, .pointer (some ⟨x5, 0, none⟩), junk, junk, junk, junk, junk, .int .i64 x11, .slice (some ⟨x12, 0, none⟩) x12n 3, .int .i64 x13, junk, junk, .int .i64 x16, junk, junk, junk, junk, junk, junk, junk, junk, junk, junk, junk, junk, junk, junk, junk, junk, junk, junk, junk, junk, junk, junk, junk, junk, junk, junk, junk, junk, junk, junk, junk, junk, junk, junk, junk, junk, junk, junk, junk, junk, junk, junk, junk, junk, junk, junk, junk, junk, junk, junk, junk, junk, junk, junk, junk, junk, junk, junk, junk, junk, junk, junk, junk, junk, junk, junk, junk, junk, junk, junk, junk, junk, junk, junk, junk, junk, junk, junk, junk, junk, junk, junk, junk, junk, junk, junk, junk, junk, junk, junk, junk, junk, junk, junk, junk, junk, junk, junk, junk]
theorem XP22_47 : ∃ P : Rec → (Option Addr) → Nat → Nat → (Option Addr) → Nat → Nat → Int → Int → Nat → Int → Nat → Nat → Int → Int → AMem → Res, P = fun (L : Rec) (x1 : Option Addr) (x1n : Nat) (x1c : Nat) (x2 : Option Addr) (x2n : Nat) (x2c : Nat) (x3 : Int) (x4 : Int) (x5 : Nat) (x11 : Int) (x12 : Nat) (x12n : Nat) (x13 : Int) (x16 : Int) (M : AMem) => L.loop b22_47 (k22_47 L) (s22_47 x1 x1n x1c x2 x2n x2c x3 x4 x5 x11 x12 x12n x13 x16 M) M := ⟨_, rfl⟩
noncomputable def P22_47 : Rec → (Option Addr) → Nat → Nat → (Option Addr) → Nat → Nat → Int → Int → Nat → Int → Nat → Nat → Int → Int → AMem → Res := Classical.choose XP22_47
noncomputable def k22_61 (L : Rec) : KT := postK zl42 (loopK L b22_47 (blockK 4 (blockK 3 (seqK (code L (.clear zl44 c22_62) (postK zl44 (loopK L b22_27 (blockK 2 (seqK (code L (.clear zl45 c22_63) (blockK 1 (seqK (code L (.clear zl46 c22_70) (postK zl46 (loopK L b22_6 (blockK 0 (seqK (code L (.clear zl47 c22_71) (retK [.tmp 10])) (retK [.tmp 10])))))) (postK zl46 (loopK L b22_6 (blockK 0 (seqK (code L (.clear zl47 c22_71) (retK [.tmp 10])) (retK [.tmp 10])))))))) (blockK 1 (seqK (code L (.clear zl46 c22_70) (postK zl46 (loopK L b22_6 (blockK 0 (seqK (code L (.clear zl47 c22_71) (retK [.tmp 10])) (retK [.tmp 10])))))) (postK zl46 (loopK L b22_6 (blockK 0 (seqK (code L (.clear zl47 c22_71) (retK [.tmp 10])) (retK [.tmp 10])))))))))))) (postK zl44 (loopK L b22_27 (blockK 2 (seqK (code L (.clear zl45 c22_63) (blockK 1 (seqK (code L (.clear zl46 c22_70) (postK zl46 (loopK L b22_6 (blockK 0 (seqK (code L (.clear zl47 c22_71) (retK [.tmp 10])) (retK [.tmp 10])))))) (postK zl46 (loopK L b22_6 (blockK 0 (seqK (code L (.clear zl47 c22_71) (retK [.tmp 10])) (retK [.tmp 10])))))))) (blockK 1 (seqK (code L (.clear zl46 c22_70) (postK zl46 (loopK L b22_6 (blockK 0 (seqK (code L (.clear zl47 c22_71) (retK [.tmp 10])) (retK [.tmp 10])))))) (postK zl46 (loopK L b22_6 (blockK 0 (seqK (code L (.clear zl47 c22_71) (retK [.tmp 10])) (retK [.tmp 10])))))))))))))))
def s22_61 (x1 : Option Addr) (x1n : Nat) (x1c : Nat) (x2 : Option Addr) (x2n : Nat) (x2c : Nat) (x3 : Int) (x4 : Int) (x5 : Nat) (x11 : Int) (x12 : Nat) (x12n : Nat) (x13 : Int) (x16 : Int) (M : AMem) : List Value := [junk, .slice x1 x1n x1c, .slice x2 x2n x2c, .int .i64 x3, .int .i64 x4, .pointer (some ⟨x5, 0, none⟩), junk, junk, junk, junk, junk, .int .i64 x11, .slice (some ⟨x12, 0, none⟩) x12n 3, .int .i64 x13, junk, junk, .int .i64 x16, junk, junk, junk, junk, junk, junk, junk, junk, junk, junk, junk, junk, junk, junk, junk, junk, junk, junk, junk, junk, junk, junk, junk, junk, junk, junk, junk, junk, junk, junk, junk, junk, junk, junk, junk, junk, junk, junk, junk, junk, junk, junk, junk, junk, junk, junk, junk, junk, junk, junk, junk, junk, junk, junk, junk, junk, junk, junk, junk, junk, junk, junk, junk, junk, junk, junk, junk, junk, junk, junk, junk, junk, junk, junk, junk, junk, junk, junk, junk, junk, junk, junk, junk, junk, junk, junk, junk, junk, junk, junk, junk, junk, junk, junk, junk, junk, junk, junk, junk]
theorem XP22_61 : ∃ P : Rec → (Option Addr) → Nat → Nat → (Option Addr) → Nat → Nat → Int → Int → Nat → Int → Nat → Nat → Int → Int → AMem → Res, P = fun (L : Rec) (x1 : Option Addr) (x1n : Nat) (x1c : Nat) (x2 : Option Addr) (x2n : Nat) (x2c : Nat) (x3 : Int) (x4 : Int) (x5 : Nat) (x11 : Int) (x12 : Nat) (x12n : Nat) (x13 : Int) (x16 : Int) (M : AMem) => code L c22_61 (k22_61 L) (s22_61 x1 x1n x1c x2 x2n x2c x3 x4 x5 x11 x12 x12n x13 x16 M) M := ⟨_, rfl⟩
noncomputable def P22_61 : Rec → (Option Addr) → Nat → Nat → (Option Addr) → Nat → Nat → Int → Int → Nat → Int → Nat → Nat → Int → Int → AMem → Res := Classical.choose XP22_61
theorem QP22_6_eq (L : Rec) (b22_27 b22_6 c22_63 c22_70 c22_71 : ACode) (hb : ∀ K t A, L.loop b22_6 K t A = code L (.post (.seq (.seq (.ops o22_9) (.cond (.tmp 20) (.skip) (.exit 0))) (.seq (.block 1 (.seq (.seq (.ops o22_17) (.cond (.tmp 33) (.exit 1) (.skip))) (.seq (.ops o22_22) (.seq (.seq (.ops o22_25) (.block 2 (.clear zl44 (.loop b22_27)))) (.clear zl45 c22_63))))) (.clear zl46 c22_70))) zl46) (loopK L b22_6 K) t A) (P22_6 : Rec → (Option Addr) → Nat → Nat → (Option Addr) → Nat → Nat → Int → Int → Nat → Int → AMem → Res) (hP22_6 : Eq P22_6 fun L x1 x1n x1c x2 x2n x2c x3 x4 x5 x11 M => L.loop b22_6 (blockK 0 (seqK (code L (.clear zl47 c22_71) (retK [.tmp 10])) (retK [.tmp 10]))) (s22_6 x1 x1n x1c x2 x2n x2c x3 x4 x5 x11 M) M) (P22_70 : Rec → (Option Addr) → Nat → Nat → (Option Addr) → Nat → Nat → Int → Int → Nat → Int → AMem → Res) (hP22_70 : Eq P22_70 fun L x1 x1n x1c x2 x2n x2c x3 x4 x5 x11 M => code L c22_70 (postK zl46 (loopK L b22_6 (blockK 0 (seqK (code L (.clear zl47 c22_71) (retK [.tmp 10])) (retK [.tmp 10]))))) (s22_70 x1 x1n x1c x2 x2n x2c x3 x4 x5 x11 M) M) (P22_27 : Rec → (Option Addr) → Nat → Nat → (Option Addr) → Nat → Nat → Int → Int → Nat → Int → Nat → Nat → Int → AMem → Res) (hP22_27 : Eq P22_27 fun L x1 x1n x1c x2 x2n x2c x3 x4 x5 x11 x12 x12n x13 M => L.loop b22_27 (blockK 2 (seqK (code L (.clear zl45 c22_63) (blockK 1 (seqK (code L (.clear zl46 c22_70) (postK zl46 (loopK L b22_6 (blockK 0 (seqK (code L (.clear zl47 c22_71) (retK [.tmp 10])) (retK [.tmp 10])))))) (postK zl46 (loopK L b22_6 (blockK 0 (seqK (code L (.clear zl47 c22_71) (retK [.tmp 10])) (retK [.tmp 10])))))))) (blockK 1 (seqK (code L (.clear zl46 c22_70) (postK zl46 (loopK L b22_6 (blockK 0 (seqK (code L (.clear zl47 c22_71) (retK [.tmp 10])) (retK [.tmp 10])))))) (postK zl46 (loopK L b22_6 (blockK 0 (seqK (code L (.clear zl47 c22_71) (retK [.tmp 10])) (retK [.tmp 10]))))))))) (s22_27 x1 x1n x1c x2 x2n x2c x3 x4 x5 x11 x12 x12n x13 M) M) (P22_71 : Rec → AMem → Res) (hP22_71 : Eq P22_71 fun L M => code L c22_71 (retK [.tmp 10]) (s22_71 M) M) (x1 : Option Addr) (x1n : Nat) (x1c : Nat) (x2 : Option Addr) (x2n : Nat) (x2c : Nat) (x3 : Int) (x4 : Int) (x5 : Nat) (x11 : Int) (M : AMem) : P22_6 L x1 x1n x1c x2 x2n x2c x3 x4 x5 x11 M =
  (if (decide (x11 < 64)) = true
    then (if ((IntKind.wrap .i64 (Int.ofNat (BitVec.toNat (BitVec.ofInt (IntKind.bits .i64) x11 &&& BitVec.ofInt (IntKind.bits .i64) x3)))) != x3) = true
      then P22_70 L x1 x1n x1c x2 x2n x2c x3 x4 x5 x11 M
      else (if ((IntKind.wrap .i64 (Int.ofNat (BitVec.toNat (BitVec.ofInt (IntKind.bits .i64) x11 &&& BitVec.ofInt (IntKind.bits .i64) x4)))) != 0) = true
        then P22_70 L x1 x1n x1c x2 x2n x2c x3 x4 x5 x11 M
        else (Option.bind (intOf? .i64 (AMem.ld M x5 0)) fun x_1 =>
          (if (0 : Int) ≤ x_1 ∧ x_1 ≤ x_1 ∧ x_1 ≤ 140737488355328 ∧ x_1 * 24 ≤ 140737488355328
          then P22_27 L x1 x1n x1c x2 x2n x2c x3 x4 x5 x11 (List.length M) (Int.toNat x_1) 0 (M ++ [AObj.cells ((List.replicate (Int.toNat x_1) [.int .u64 0, .int .u64 0, .int .u64 0]).flatten) ⟨false, 0⟩])
          else none))))
    else P22_71 L M) := by
  subst hP22_6; subst hP22_70; subst hP22_27; subst hP22_71; exact (hb (blockK 0 (seqK (code L (.clear zl47 c22_71) (retK [.tmp 10])) (retK [.tmp 10]))) (s22_6 x1 x1n x1c x2 x2n x2c x3 x4 x5 x11 M) M).trans (by kernel_rfl)
theorem P22_6_eq (L : Rec) (hL : ∀ b K t A, L.loop b K t A = code L b (loopK L b K) t A) (x1 : Option Addr) (x1n : Nat) (x1c : Nat) (x2 : Option Addr) (x2n : Nat) (x2c : Nat) (x3 : Int) (x4 : Int) (x5 : Nat) (x11 : Int) (M : AMem) : P22_6 L x1 x1n x1c x2 x2n x2c x3 x4 x5 x11 M =
  (if (decide (x11 < 64)) = true
    then (if ((IntKind.wrap .i64 (Int.ofNat (BitVec.toNat (BitVec.ofInt (IntKind.bits .i64) x11 &&& BitVec.ofInt (IntKind.bits .i64) x3)))) != x3) = true
      then P22_70 L x1 x1n x1c x2 x2n x2c x3 x4 x5 x11 M
      else (if ((IntKind.wrap .i64 (Int.ofNat (BitVec.toNat (BitVec.ofInt (IntKind.bits .i64) x11 &&& BitVec.ofInt (IntKind.bits .i64) x4)))) != 0) = true
        then P22_70 L x1 x1n x1c x2 x2n x2c x3 x4 x5 x11 M
        else (Option.bind (intOf? .i64 (AMem.ld M x5 0)) fun x_1 =>
          (if (0 : Int) ≤ x_1 ∧ x_1 ≤ x_1 ∧ x_1 ≤ 140737488355328 ∧ x_1 * 24 ≤ 140737488355328
          then P22_27 L x1 x1n x1c x2 x2n x2c x3 x4 x5 x11 (List.length M) (Int.toNat x_1) 0 (M ++ [AObj.cells ((List.replicate (Int.toNat x_1) [.int .u64 0, .int .u64 0, .int .u64 0]).flatten) ⟨false, 0⟩])
          else none))))
    else P22_71 L M) := QP22_6_eq L b22_27 b22_6 c22_63 c22_70 c22_71 (hL b22_6) P22_6 (Classical.choose_spec XP22_6) P22_70 (Classical.choose_spec XP22_70) P22_27 (Classical.choose_spec XP22_27) P22_71 (Classical.choose_spec XP22_71) x1 x1n x1c x2 x2n x2c x3 x4 x5 x11 M
theorem QP22_70_eq (L : Rec) (b22_6 c22_71 : ACode) (P22_6 : Rec → (Option Addr) → Nat → Nat → (Option Addr) → Nat → Nat → Int → Int → Nat → Int → AMem → Res) (hP22_6 : Eq P22_6 fun L x1 x1n x1c x2 x2n x2c x3 x4 x5 x11 M => L.loop b22_6 (blockK 0 (seqK (code L (.clear zl47 c22_71) (retK [.tmp 10])) (retK [.tmp 10]))) (s22_6 x1 x1n x1c x2 x2n x2c x3 x4 x5 x11 M) M) (P22_70 : Rec → (Option Addr) → Nat → Nat → (Option Addr) → Nat → Nat → Int → Int → Nat → Int → AMem → Res) (hP22_70 : Eq P22_70 fun L x1 x1n x1c x2 x2n x2c x3 x4 x5 x11 M => code L (.ops o22_70) (postK zl46 (loopK L b22_6 (blockK 0 (seqK (code L (.clear zl47 c22_71) (retK [.tmp 10])) (retK [.tmp 10]))))) (s22_70 x1 x1n x1c x2 x2n x2c x3 x4 x5 x11 M) M) (x1 : Option Addr) (x1n : Nat) (x1c : Nat) (x2 : Option Addr) (x2n : Nat) (x2c : Nat) (x3 : Int) (x4 : Int) (x5 : Nat) (x11 : Int) (M : AMem) : P22_70 L x1 x1n x1c x2 x2n x2c x3 x4 x5 x11 M =
  P22_6 L x1 x1n x1c x2 x2n x2c x3 x4 x5 (IntKind.wrap .i64 (x11 + 1)) M := by
  subst hP22_6; subst hP22_70; kernel_rfl
theorem P22_70_eq (L : Rec) (x1 : Option Addr) (x1n : Nat) (x1c : Nat) (x2 : Option Addr) (x2n : Nat) (x2c : Nat) (x3 : Int) (x4 : Int) (x5 : Nat) (x11 : Int) (M : AMem) : P22_70 L x1 x1n x1c x2 x2n x2c x3 x4 x5 x11 M =
  P22_6 L x1 x1n x1c x2 x2n x2c x3 x4 x5 (IntKind.wrap .i64 (x11 + 1)) M := QP22_70_eq L b22_6 c22_71 P22_6 (Classical.choose_spec XP22_6) P22_70 (Classical.choose_spec XP22_70) x1 x1n x1c x2 x2n x2c x3 x4 x5 x11 M
theorem QP22_27_eq (L : Rec) (b22_27 b22_47 b22_6 c22_41 c22_62 c22_63 c22_70 c22_71 : ACode) (hb : ∀ K t A, L.loop b22_27 K t A = code L (.post (.seq (.seq (.ops o22_30) (.cond (.tmp 40) (.skip) (.exit 2))) (.seq (.block 3 (.seq (.draw f22_37 0 o22_37 [(15, 11)]) (.seq (.seq (.ops o22_40) (.clear zl43 c22_41)) (.seq (.ops o22_45) (.block 4 (.clear zl42 (.loop b22_47))))))) (.clear zl44 c22_62))) zl44) (loopK L b22_27 K) t A) (P22_27 : Rec → (Option Addr) → Nat → Nat → (Option Addr) → Nat → Nat → Int → Int → Nat → Int → Nat → Nat → Int → AMem → Res) (hP22_27 : Eq P22_27 fun L x1 x1n x1c x2 x2n x2c x3 x4 x5 x11 x12 x12n x13 M => L.loop b22_27 (blockK 2 (seqK (code L (.clear zl45 c22_63) (blockK 1 (seqK (code L (.clear zl46 c22_70) (postK zl46 (loopK L b22_6 (blockK 0 (seqK (code L (.clear zl47 c22_71) (retK [.tmp 10])) (retK [.tmp 10])))))) (postK zl46 (loopK L b22_6 (blockK 0 (seqK (code L (.clear zl47 c22_71) (retK [.tmp 10])) (retK [.tmp 10])))))))) (blockK 1 (seqK (code L (.clear zl46 c22_70) (postK zl46 (loopK L b22_6 (blockK 0 (seqK (code L (.clear zl47 c22_71) (retK [.tmp 10])) (retK [.tmp 10])))))) (postK zl46 (loopK L b22_6 (blockK 0 (seqK (code L (.clear zl47 c22_71) (retK [.tmp 10])) (retK [.tmp 10]))))))))) (s22_27 x1 x1n x1c x2 x2n x2c x3 x4 x5 x11 x12 x12n x13 M) M) (P22_41 : Rec → (Option Addr) → Nat → Nat → (Option Addr) → Nat → Nat → Int → Int → Nat → Int → Nat → Nat → Int → Bool → AMem → Res) (hP22_41 : Eq P22_41 fun L x1 x1n x1c x2 x2n x2c x3 x4 x5 x11 x12 x12n x13 x66 M => code L c22_41 (seqK (code L (.seq (.ops o22_45) (.block 4 (.clear zl42 (.loop b22_47)))) (blockK 3 (seqK (code L (.clear zl44 c22_62) (postK zl44 (loopK L b22_27 (blockK 2 (seqK (code L (.clear zl45 c22_63) (blockK 1 (seqK (code L (.clear zl46 c22_70) (postK zl46 (loopK L b22_6 (blockK 0 (seqK (code L (.clear zl47 c22_71) (retK [.tmp 10])) (retK [.tmp 10])))))) (postK zl46 (loopK L b22_6 (blockK 0 (seqK (code L (.clear zl47 c22_71) (retK [.tmp 10])) (retK [.tmp 10])))))))) (blockK 1 (seqK (code L (.clear zl46 c22_70) (postK zl46 (loopK L b22_6 (blockK 0 (seqK (code L (.clear zl47 c22_71) (retK [.tmp 10])) (retK [.tmp 10])))))) (postK zl46 (loopK L b22_6 (blockK 0 (seqK (code L (.clear zl47 c22_71) (retK [.tmp 10])) (retK [.tmp 10])))))))))))) (postK zl44 (loopK L b22_27 (blockK 2 (seqK (code L (.clear zl45 c22_63) (blockK 1 (seqK (code L (.clear zl46 c22_70) (postK zl46 (loopK L b22_6 (blockK 0 (seqK (code L (.clear zl47 c22_71) (retK [.tmp 10])) (retK [.tmp 10])))))) (postK zl46 (loopK L b22_6 (blockK 0 (seqK (code L (.clear zl47 c22_71) (retK [.tmp 10])) (retK [.tmp 10])))))))) (blockK 1 (seqK (code L (.clear zl46 c22_70) (postK zl46 (loopK L b22_6 (blockK 0 (seqK (code L (.clear zl47 c22_71) (retK [.tmp 10])) (retK [.tmp 10])))))) (postK zl46 (loopK L b22_6 (blockK 0 (seqK (code L (.clear zl47 c22_71) (retK [.tmp 10])) (retK [.tmp 10])))))))))))))) (blockK 3 (seqK (code L (.clear zl44 c22_62) (postK zl44 (loopK L b22_27 (blockK 2 (seqK (code L (.clear zl45 c22_63) (blockK 1 (seqK (code L (.clear zl46 c22_70) (postK zl46 (loopK L b22_6 (blockK 0 (seqK (code L (.clear zl47 c22_71) (retK [.tmp 10])) (retK [.tmp 10])))))) (postK zl46 (loopK L b22_6 (blockK 0 (seqK (code L (.clear zl47 c22_71) (retK [.tmp 10])) (retK [.tmp 10])))))))) (blockK 1 (seqK (code L (.clear zl46 c22_70) (postK zl46 (loopK L b22_6 (blockK 0 (seqK (code L (.clear zl47 c22_71) (retK [.tmp 10])) (retK [.tmp 10])))))) (postK zl46 (loopK L b22_6 (blockK 0 (seqK (code L (.clear zl47 c22_71) (retK [.tmp 10])) (retK [.tmp 10])))))))))))) (postK zl44 (loopK L b22_27 (blockK 2 (seqK (code L (.clear zl45 c22_63) (blockK 1 (seqK (code L (.clear zl46 c22_70) (postK zl46 (loopK L b22_6 (blockK 0 (seqK (code L (.clear zl47 c22_71) (retK [.tmp 10])) (retK [.tmp 10])))))) (postK zl46 (loopK L b22_6 (blockK 0 (seqK (code L (.clear zl47 c22_71) (retK [.tmp 10])) (retK [.tmp 10])))))))) (blockK 1 (seqK (code L (.clear zl46 c22_70) (postK zl46 (loopK L b22_6 (blockK 0 (seqK (code L (.clear zl47 c22_71) (retK [.tmp 10])) (retK [.tmp 10])))))) (postK zl46 (loopK L b22_6 (blockK 0 (seqK (code L (.clear zl47 c22_71) (retK [.tmp 10])) (retK [.tmp 10])))))))))))))) (s22_41 x1 x1n x1c x2 x2n x2c x3 x4 x5 x11 x12 x12n x13 x66 M) M) (P22_63 : Rec → (Option Addr) → Nat → Nat → (Option Addr) → Nat → Nat → Int → Int → Nat → Int → Nat → Nat → AMem → Res) (hP22_63 : Eq P22_63 fun L x1 x1n x1c x2 x2n x2c x3 x4 x5 x11 x12 x12n M => code L c22_63 (blockK 1 (seqK (code L (.clear zl46 c22_70) (postK zl46 (loopK L b22_6 (blockK 0 (seqK (code L (.clear zl47 c22_71) (retK [.tmp 10])) (retK [.tmp 10])))))) (postK zl46 (loopK L b22_6 (blockK 0 (seqK (code L (.clear zl47 c22_71) (retK [.tmp 10])) (retK [.tmp 10]))))))) (s22_63 x1 x1n x1c x2 x2n x2c x3 x4 x5 x11 x12 x12n M) M) (x1 : Option Addr) (x1n : Nat) (x1c : Nat) (x2 : Option Addr) (x2n : Nat) (x2c : Nat) (x3 : Int) (x4 : Int) (x5 : Nat) (x11 : Int) (x12 : Nat) (x12n : Nat) (x13 : Int) (M : AMem) : P22_27 L x1 x1n x1c x2 x2n x2c x3 x4 x5 x11 x12 x12n x13 M =
  (if (decide (x13 < (Int.ofNat x1n))) = true
    then (Option.bind (intOf? .i64 (AMem.ld (M ++ [AObj.cells [.int .i64 0, .slice none 0 0, .int .i64 0, .bool false, .int .u64 0, .int .i64 0] ⟨false, 0⟩]) x5 0)) fun x_1 =>
      (Option.bind (intOf? .i64 (AMem.ld (M ++ [AObj.cells [.int .i64 0, .slice none 0 0, .int .i64 0, .bool false, .int .u64 0, .int .i64 0] ⟨false, 0⟩]) x5 1)) fun x_2 =>
      (match x1 with
      | some a_3 => (if (0 : Int) ≤ x13 ∧ x13 < (Int.ofNat x1n)
        then (Option.bind (intOf? .i64 (AMem.ld (M ++ [AObj.cells [.int .i64 0, .slice none 0 0, .int .i64 0, .bool false, .int .u64 0, .int .i64 0] ⟨false, 0⟩]) a_3.block (a_3.off + ((Int.toNat x13) * 2)))) fun x_4 =>
          (match x1 with
          | some a_5 => (if (0 : Int) ≤ x13 ∧ x13 < (Int.ofNat x1n)
            then (Option.bind (sliceOf? (AMem.ld (M ++ [AObj.cells [.int .i64 0, .slice none 0 0, .int .i64 0, .bool false, .int .u64 0, .int .i64 0] ⟨false, 0⟩]) a_5.block ((a_5.off + ((Int.toNat x13) * 2)) + 1))) fun s_6 =>
              (Option.bind (L.call 25 [.agg #[.int .i64 x_1, .int .i64 x_2], .int .i64 x_4, .slice s_6.1 s_6.2.1 s_6.2.2] (M ++ [AObj.cells [.int .i64 0, .slice none 0 0, .int .i64 0, .bool false, .int .u64 0, .int .i64 0] ⟨false, 0⟩])) fun r_7 =>
              (Option.bind (tupOf? 2 r_7.1) fun cs_8 =>
              (Option.bind (cs_8[0]?) fun u_9 =>
              (Option.bind (aggOf? 6 u_9) fun cs_10 =>
              (Option.bind (intOf? .i64 (cs_10[0]?)) fun x_11 =>
              (Option.bind (sliceOf? (cs_10[1]?)) fun s_12 =>
              (Option.bind (intOf? .i64 (cs_10[2]?)) fun x_13 =>
              (Option.bind (boolOf? (cs_10[3]?)) fun q_14 =>
              (Option.bind (intOf? .u64 (cs_10[4]?)) fun x_15 =>
              (Option.bind (intOf? .i64 (cs_10[5]?)) fun x_16 =>
              (Option.bind (cs_8[1]?) fun u_17 =>
              (Option.bind (boolOf? (some u_17)) fun q_18 =>
              (Option.bind (AMem.wr r_7.2 (List.length M) 0 [.int .i64 x_11, .slice s_12.1 s_12.2.1 s_12.2.2, .int .i64 x_13, .bool q_14, .int .u64 x_15, .int .i64 x_16]) fun M_19 =>
              (if chkOk [(15, 11)] [(15, (List.length M))] [(11, ((M ++ [AObj.cells [.int .i64 0, .slice none 0 0, .int .i64 0, .bool false, .int .u64 0, .int .i64 0] ⟨false, 0⟩]), r_7.2))] = true
              then (if (!q_18) = true
                then P22_41 L x1 x1n x1c x2 x2n x2c x3 x4 x5 x11 x12 x12n x13 true M_19
                else (if x13 < 0
                  then none
                  else P22_41 L x1 x1n x1c x2 x2n x2c x3 x4 x5 x11 x12 x12n x13 ((IntKind.wrap .i64 (Int.ofNat (BitVec.toNat (BitVec.ofInt (IntKind.bits .i64) (Int.fdiv x11 (2 ^ (min (Int.toNat x13) (IntKind.bits .i64)))) &&& BitVec.ofInt (IntKind.bits .i64) 1)))) == 0) M_19))
              else none)))))))))))))))
            else none)
          | none => none))
        else none)
      | none => none)))
    else P22_63 L x1 x1n x1c x2 x2n x2c x3 x4 x5 x11 x12 x12n M) := by
  subst hP22_27; subst hP22_41; subst hP22_63; exact (hb (blockK 2 (seqK (code L (.clear zl45 c22_63) (blockK 1 (seqK (code L (.clear zl46 c22_70) (postK zl46 (loopK L b22_6 (blockK 0 (seqK (code L (.clear zl47 c22_71) (retK [.tmp 10])) (retK [.tmp 10])))))) (postK zl46 (loopK L b22_6 (blockK 0 (seqK (code L (.clear zl47 c22_71) (retK [.tmp 10])) (retK [.tmp 10])))))))) (blockK 1 (seqK (code L (.clear zl46 c22_70) (postK zl46 (loopK L b22_6 (blockK 0 (seqK (code L (.clear zl47 c22_71) (retK [.tmp 10])) (retK [.tmp 10])))))) (postK zl46 (loopK L b22_6 (blockK 0 (seqK (code L (.clear zl47 c22_71) (retK [.tmp 10])) (retK [.tmp 10]))))))))) (s22_27 x1 x1n x1c x2 x2n x2c x3 x4 x5 x11 x12 x12n x13 M) M).trans (by kernel_rfl)
theorem P22_27_eq (L : Rec) (hL : ∀ b K t A, L.loop b K t A = code L b (loopK L b K) t A) (x1 : Option Addr) (x1n : Nat) (x1c : Nat) (x2 : Option Addr) (x2n : Nat) (x2c : Nat) (x3 : Int) (x4 : Int) (x5 : Nat) (x11 : Int) (x12 : Nat) (x12n : Nat) (x13 : Int) (M : AMem) : P22_27 L x1 x1n x1c x2 x2n x2c x3 x4 x5 x11 x12 x12n x13 M =
  (if (decide (x13 < (Int.ofNat x1n))) = true
    then (Option.bind (intOf? .i64 (AMem.ld (M ++ [AObj.cells [.int .i64 0, .slice none 0 0, .int .i64 0, .bool false, .int .u64 0, .int .i64 0] ⟨false, 0⟩]) x5 0)) fun x_1 =>
      (Option.bind (intOf? .i64 (AMem.ld (M ++ [AObj.cells [.int .i64 0, .slice none 0 0, .int .i64 0, .bool false, .int .u64 0, .int .i64 0] ⟨false, 0⟩]) x5 1)) fun x_2 =>
      (match x1 with
      | some a_3 => (if (0 : Int) ≤ x13 ∧ x13 < (Int.ofNat x1n)
        then (Option.bind (intOf? .i64 (AMem.ld (M ++ [AObj.cells [.int .i64 0, .slice none 0 0, .int .i64 0, .bool false, .int .u64 0, .int .i64 0] ⟨false, 0⟩]) a_3.block (a_3.off + ((Int.toNat x13) * 2)))) fun x_4 =>
          (match x1 with
          | some a_5 => (if (0 : Int) ≤ x13 ∧ x13 < (Int.ofNat x1n)
            then (Option.bind (sliceOf? (AMem.ld (M ++ [AObj.cells [.int .i64 0, .slice none 0 0, .int .i64 0, .bool false, .int .u64 0, .int .i64 0] ⟨false, 0⟩]) a_5.block ((a_5.off + ((Int.toNat x13) * 2)) + 1))) fun s_6 =>
              (Option.bind (L.call 25 [.agg #[.int .i64 x_1, .int .i64 x_2], .int .i64 x_4, .slice s_6.1 s_6.2.1 s_6.2.2] (M ++ [AObj.cells [.int .i64 0, .slice none 0 0, .int .i64 0, .bool false, .int .u64 0, .int .i64 0] ⟨false, 0⟩])) fun r_7 =>
              (Option.bind (tupOf? 2 r_7.1) fun cs_8 =>
              (Option.bind (cs_8[0]?) fun u_9 =>
              (Option.bind (aggOf? 6 u_9) fun cs_10 =>
              (Option.bind (intOf? .i64 (cs_10[0]?)) fun x_11 =>
              (Option.bind (sliceOf? (cs_10[1]?)) fun s_12 =>
              (Option.bind (intOf? .i64 (cs_10[2]?)) fun x_13 =>
              (Option.bind (boolOf? (cs_10[3]?)) fun q_14 =>
              (Option.bind (intOf? .u64 (cs_10[4]?)) fun x_15 =>
              (Option.bind (intOf? .i64 (cs_10[5]?)) fun x_16 =>
              (Option.bind (cs_8[1]?) fun u_17 =>
              (Option.bind (boolOf? (some u_17)) fun q_18 =>
              (Option.bind (AMem.wr r_7.2 (List.length M) 0 [.int .i64 x_11, .slice s_12.1 s_12.2.1 s_12.2.2, .int .i64 x_13, .bool q_14, .int .u64 x_15, .int .i64 x_16]) fun M_19 =>
              (if chkOk [(15, 11)] [(15, (List.length M))] [(11, ((M ++ [AObj.cells [.int .i64 0, .slice none 0 0, .int .i64 0, .bool false, .int .u64 0, .int .i64 0] ⟨false, 0⟩]), r_7.2))] = true
              then (if (!q_18) = true
                then P22_41 L x1 x1n x1c x2 x2n x2c x3 x4 x5 x11 x12 x12n x13 true M_19
                else (if x13 < 0
                  then none
                  else P22_41 L x1 x1n x1c x2 x2n x2c x3 x4 x5 x11 x12 x12n x13 ((IntKind.wrap .i64 (Int.ofNat (BitVec.toNat (BitVec.ofInt (IntKind.bits .i64) (Int.fdiv x11 (2 ^ (min (Int.toNat x13) (IntKind.bits .i64)))) &&& BitVec.ofInt (IntKind.bits .i64) 1)))) == 0) M_19))
              else none)))))))))))))))
            else none)
          | none => none))
        else none)
      | none => none)))
    else P22_63 L x1 x1n x1c x2 x2n x2c x3 x4 x5 x11 x12 x12n M) := QP22_27_eq L b22_27 b22_47 b22_6 c22_41 c22_62 c22_63 c22_70 c22_71 (hL b22_27) P22_27 (Classical.choose_spec XP22_27) P22_41 (Classical.choose_spec XP22_41) P22_63 (Classical.choose_spec XP22_63) x1 x1n x1c x2 x2n x2c x3 x4 x5 x11 x12 x12n x13 M
theorem QP22_71_eq (L : Rec) (P22_71 : Rec → AMem → Res) (hP22_71 : Eq P22_71 fun L M => code L (.seq (.ops o22_72) (.ret)) (retK [.tmp 10]) (s22_71 M) M) (M : AMem) : P22_71 L M =
  some (.bool false, M) := by
  subst hP22_71; kernel_rfl
theorem P22_71_eq (L : Rec) (M : AMem) : P22_71 L M =
  some (.bool false, M) := QP22_71_eq L P22_71 (Classical.choose_spec XP22_71) M
theorem QP22_41_eq (L : Rec) (b22_27 b22_47 b22_6 c22_62 c22_63 c22_70 c22_71 : ACode) (P22_41 : Rec → (Option Addr) → Nat → Nat → (Option Addr) → Nat → Nat → Int → Int → Nat → Int → Nat → Nat → Int → Bool → AMem → Res) (hP22_41 : Eq P22_41 fun L x1 x1n x1c x2 x2n x2c x3 x4 x5 x11 x12 x12n x13 x66 M => code L (.cond (.tmp 66) (.exit 3) (.skip)) (seqK (code L (.seq (.ops o22_45) (.block 4 (.clear zl42 (.loop b22_47)))) (blockK 3 (seqK (code L (.clear zl44 c22_62) (postK zl44 (loopK L b22_27 (blockK 2 (seqK (code L (.clear zl45 c22_63) (blockK 1 (seqK (code L (.clear zl46 c22_70) (postK zl46 (loopK L b22_6 (blockK 0 (seqK (code L (.clear zl47 c22_71) (retK [.tmp 10])) (retK [.tmp 10])))))) (postK zl46 (loopK L b22_6 (blockK 0 (seqK (code L (.clear zl47 c22_71) (retK [.tmp 10])) (retK [.tmp 10])))))))) (blockK 1 (seqK (code L (.clear zl46 c22_70) (postK zl46 (loopK L b22_6 (blockK 0 (seqK (code L (.clear zl47 c22_71) (retK [.tmp 10])) (retK [.tmp 10])))))) (postK zl46 (loopK L b22_6 (blockK 0 (seqK (code L (.clear zl47 c22_71) (retK [.tmp 10])) (retK [.tmp 10])))))))))))) (postK zl44 (loopK L b22_27 (blockK 2 (seqK (code L (.clear zl45 c22_63) (blockK 1 (seqK (code L (.clear zl46 c22_70) (postK zl46 (loopK L b22_6 (blockK 0 (seqK (code L (.clear zl47 c22_71) (retK [.tmp 10])) (retK [.tmp 10])))))) (postK zl46 (loopK L b22_6 (blockK 0 (seqK (code L (.clear zl47 c22_71) (retK [.tmp 10])) (retK [.tmp 10])))))))) (blockK 1 (seqK (code L (.clear zl46 c22_70) (postK zl46 (loopK L b22_6 (blockK 0 (seqK (code L (.clear zl47 c22_71) (retK [.tmp 10])) (retK [.tmp 10])))))) (postK zl46 (loopK L b22_6 (blockK 0 (seqK (code L (.clear zl47 c22_71) (retK [.tmp 10])) (retK [.tmp 10])))))))))))))) (blockK 3 (seqK (code L (.clear zl44 c22_62) (postK zl44 (loopK L b22_27 (blockK 2 (seqK (code L (.clear zl45 c22_63) (blockK 1 (seqK (code L (.clear zl46 c22_70) (postK zl46 (loopK L b22_6 (blockK 0 (seqK (code L (.clear zl47 c22_71) (retK [.tmp 10])) (retK [.tmp 10])))))) (postK zl46 (loopK L b22_6 (blockK 0 (seqK (code L (.clear zl47 c22_71) (retK [.tmp 10])) (retK [.tmp 10])))))))) (blockK 1 (seqK (code L (.clear zl46 c22_70) (postK zl46 (loopK L b22_6 (blockK 0 (seqK (code L (.clear zl47 c22_71) (retK [.tmp 10])) (retK [.tmp 10])))))) (postK zl46 (loopK L b22_6 (blockK 0 (seqK (code L (.clear zl47 c22_71) (retK [.tmp 10])) (retK [.tmp 10])))))))))))) (postK zl44 (loopK L b22_27 (blockK 2 (seqK (code L (.clear zl45 c22_63) (blockK 1 (seqK (code L (.clear zl46 c22_70) (postK zl46 (loopK L b22_6 (blockK 0 (seqK (code L (.clear zl47 c22_71) (retK [.tmp 10])) (retK [.tmp 10])))))) (postK zl46 (loopK L b22_6 (blockK 0 (seqK (code L (.clear zl47 c22_71) (retK [.tmp 10])) (retK [.tmp 10])))))))) (blockK 1 (seqK (code L (.clear zl46 c22_70) (postK zl46 (loopK L b22_6 (blockK 0 (seqK (code L (.clear zl47 c22_71) (retK [.tmp 10])) (retK [.tmp 10])))))) (postK zl46 (loopK L b22_6 (blockK 0 (seqK (code L (.clear zl47 c22_71) (retK [.tmp 10])) (retK [.tmp 10])))))))))))))) (s22_41 x1 x1n x1c x2 x2n x2c x3 x4 x5 x11 x12 x12n x13 x66 M) M) (P22_62 : Rec → (Option Addr) → Nat → Nat → (Option Addr) → Nat → Nat → Int → Int → Nat → Int → Nat → Nat → Int → AMem → Res) (hP22_62 : Eq P22_62 fun L x1 x1n x1c x2 x2n x2c x3 x4 x5 x11 x12 x12n x13 M => code L c22_62 (postK zl44 (loopK L b22_27 (blockK 2 (seqK (code L (.clear zl45 c22_63) (blockK 1 (seqK (code L (.clear zl46 c22_70) (postK zl46 (loopK L b22_6 (blockK 0 (seqK (code L (.clear zl47 c22_71) (retK [.tmp 10])) (retK [.tmp 10])))))) (postK zl46 (loopK L b22_6 (blockK 0 (seqK (code L (.clear zl47 c22_71) (retK [.tmp 10])) (retK [.tmp 10])))))))) (blockK 1 (seqK (code L (.clear zl46 c22_70) (postK zl46 (loopK L b22_6 (blockK 0 (seqK (code L (.clear zl47 c22_71) (retK [.tmp 10])) (retK [.tmp 10])))))) (postK zl46 (loopK L b22_6 (blockK 0 (seqK (code L (.clear zl47 c22_71) (retK [.tmp 10])) (retK [.tmp 10]))))))))))) (s22_62 x1 x1n x1c x2 x2n x2c x3 x4 x5 x11 x12 x12n x13 M) M) (P22_47 : Rec → (Option Addr) → Nat → Nat → (Option Addr) → Nat → Nat → Int → Int → Nat → Int → Nat → Nat → Int → Int → AMem → Res) (hP22_47 : Eq P22_47 fun L x1 x1n x1c x2 x2n x2c x3 x4 x5 x11 x12 x12n x13 x16 M => L.loop b22_47 (blockK 4 (blockK 3 (seqK (code L (.clear zl44 c22_62) (postK zl44 (loopK L b22_27 (blockK 2 (seqK (code L (.clear zl45 c22_63) (blockK 1 (seqK (code L (.clear zl46 c22_70) (postK zl46 (loopK L b22_6 (blockK 0 (seqK (code L (.clear zl47 c22_71) (retK [.tmp 10])) (retK [.tmp 10])))))) (postK zl46 (loopK L b22_6 (blockK 0 (seqK (code L (.clear zl47 c22_71) (retK [.tmp 10])) (retK [.tmp 10])))))))) (blockK 1 (seqK (code L (.clear zl46 c22_70) (postK zl46 (loopK L b22_6 (blockK 0 (seqK (code L (.clear zl47 c22_71) (retK [.tmp 10])) (retK [.tmp 10])))))) (postK zl46 (loopK L b22_6 (blockK 0 (seqK (code L (.clear zl47 c22_71) (retK [.tmp 10])) (retK [.tmp 10])))))))))))) (postK zl44 (loopK L b22_27 (blockK 2 (seqK (code L (.clear zl45 c22_63) (blockK 1 (seqK (code L (.clear zl46 c22_70) (postK zl46 (loopK L b22_6 (blockK 0 (seqK (code L (.clear zl47 c22_71) (retK [.tmp 10])) (retK [.tmp 10])))))) (postK zl46 (loopK L b22_6 (blockK 0 (seqK (code L (.clear zl47 c22_71) (retK [.tmp 10])) (retK [.tmp 10])))))))) (blockK 1 (seqK (code L (.clear zl46 c22_70) (postK zl46 (loopK L b22_6 (blockK 0 (seqK (code L (.clear zl47 c22_71) (retK [.tmp 10])) (retK [.tmp 10])))))) (postK zl46 (loopK L b22_6 (blockK 0 (seqK (code L (.clear zl47 c22_71) (retK [.tmp 10])) (retK [.tmp 10])))))))))))))) (s22_47 x1 x1n x1c x2 x2n x2c x3 x4 x5 x11 x12 x12n x13 x16 M) M) (x1 : Option Addr) (x1n : Nat) (x1c : Nat) (x2 : Option Addr) (x2n : Nat) (x2c : Nat) (x3 : Int) (x4 : Int) (x5 : Nat) (x11 : Int) (x12 : Nat) (x12n : Nat) (x13 : Int) (x66 : Bool) (M : AMem) : P22_41 L x1 x1n x1c x2 x2n x2c x3 x4 x5 x11 x12 x12n x13 x66 M =
  (if x66 = true
    then P22_62 L x1 x1n x1c x2 x2n x2c x3 x4 x5 x11 x12 x12n x13 M
    else P22_47 L x1 x1n x1c x2 x2n x2c x3 x4 x5 x11 x12 x12n x13 0 M) := by
  subst hP22_41; subst hP22_62; subst hP22_47; kernel_rfl
theorem P22_41_eq (L : Rec) (x1 : Option Addr) (x1n : Nat) (x1c : Nat) (x2 : Option Addr) (x2n : Nat) (x2c : Nat) (x3 : Int) (x4 : Int) (x5 : Nat) (x11 : Int) (x12 : Nat) (x12n : Nat) (x13 : Int) (x66 : Bool) (M : AMem) : P22_41 L x1 x1n x1c x2 x2n x2c x3 x4 x5 x11 x12 x12n x13 x66 M =
  (if x66 = true
    then P22_62 L x1 x1n x1c x2 x2n x2c x3 x4 x5 x11 x12 x12n x13 M
    else P22_47 L x1 x1n x1c x2 x2n x2c x3 x4 x5 x11 x12 x12n x13 0 M) := QP22_41_eq L b22_27 b22_47 b22_6 c22_62 c22_63 c22_70 c22_71 P22_41 (Classical.choose_spec XP22_41) P22_62 (Classical.choose_spec XP22_62) P22_47 (Classical.choose_spec XP22_47) x1 x1n x1c x2 x2n x2c x3 x4 x5 x11 x12 x12n x13 x66 M
theorem QP22_63_eq (L : Rec) (b22_6 c22_70 c22_71 : ACode) (P22_70 : Rec → (Option Addr) → Nat → Nat → (Option Addr) → Nat → Nat → Int → Int → Nat → Int → AMem → Res) (hP22_70 : Eq P22_70 fun L x1 x1n x1c x2 x2n x2c x3 x4 x5 x11 M => code L c22_70 (postK zl46 (loopK L b22_6 (blockK 0 (seqK (code L (.clear zl47 c22_71) (retK [.tmp 10])) (retK [.tmp 10]))))) (s22_70 x1 x1n x1c x2 x2n x2c x3 x4 x5 x11 M) M) (P22_63 : Rec → (Option Addr) → Nat → Nat → (Option Addr) → Nat → Nat → Int → Int → Nat → Int → Nat → Nat → AMem → Res) (hP22_63 : Eq P22_63 fun L x1 x1n x1c x2 x2n x2c x3 x4 x5 x11 x12 x12n M => code L (.seq (.ops o22_64) (.cond (.tmp 115) (.seq (.ops o22_67) (.ret)) (.skip))) (blockK 1 (seqK (code L (.clear zl46 c22_70) (postK zl46 (loopK L b22_6 (blockK 0 (seqK (code L (.clear zl47 c22_71) (retK [.tmp 10])) (retK [.tmp 10])))))) (postK zl46 (loopK L b22_6 (blockK 0 (seqK (code L (.clear zl47 c22_71) (retK [.tmp 10])) (retK [.tmp 10]))))))) (s22_63 x1 x1n x1c x2 x2n x2c x3 x4 x5 x11 x12 x12n M) M) (x1 : Option Addr) (x1n : Nat) (x1c : Nat) (x2 : Option Addr) (x2n : Nat) (x2c : Nat) (x3 : Int) (x4 : Int) (x5 : Nat) (x11 : Int) (x12 : Nat) (x12n : Nat) (M : AMem) : P22_63 L x1 x1n x1c x2 x2n x2c x3 x4 x5 x11 x12 x12n M =
  (Option.bind (L.call 29 [.slice (some ⟨x12, 0, none⟩) x12n 3, .slice x2 x2n x2c] M) fun r_1 =>
    (Option.bind (boolOf? (some r_1.1)) fun q_2 =>
    (if q_2 = true
    then some (.bool true, r_1.2)
    else P22_70 L x1 x1n x1c x2 x2n x2c x3 x4 x5 x11 r_1.2))) := by
  subst hP22_70; subst hP22_63; kernel_rfl
theorem P22_63_eq (L : Rec) (x1 : Option Addr) (x1n : Nat) (x1c : Nat) (x2 : Option Addr) (x2n : Nat) (x2c : Nat) (x3 : Int) (x4 : Int) (x5 : Nat) (x11 : Int) (x12 : Nat) (x12n : Nat) (M : AMem) : P22_63 L x1 x1n x1c x2 x2n x2c x3 x4 x5 x11 x12 x12n M =
  (Option.bind (L.call 29 [.slice (some ⟨x12, 0, none⟩) x12n 3, .slice x2 x2n x2c] M) fun r_1 =>
    (Option.bind (boolOf? (some r_1.1)) fun q_2 =>
    (if q_2 = true
    then some (.bool true, r_1.2)
    else P22_70 L x1 x1n x1c x2 x2n x2c x3 x4 x5 x11 r_1.2))) := QP22_63_eq L b22_6 c22_70 c22_71 P22_70 (Classical.choose_spec XP22_70) P22_63 (Classical.choose_spec XP22_63) x1 x1n x1c x2 x2n x2c x3 x4 x5 x11 x12 x12n M
theorem QP22_62_eq (L : Rec) (b22_27 b22_6 c22_63 c22_70 c22_71 : ACode) (P22_27 : Rec → (Option Addr) → Nat → Nat → (Option Addr) → Nat → Nat → Int → Int → Nat → Int → Nat → Nat → Int → AMem → Res) (hP22_27 : Eq P22_27 fun L x1 x1n x1c x2 x2n x2c x3 x4 x5 x11 x12 x12n x13 M => L.loop b22_27 (blockK 2 (seqK (code L (.clear zl45 c22_63) (blockK 1 (seqK (code L (.clear zl46 c22_70) (postK zl46 (loopK L b22_6 (blockK 0 (seqK (code L (.clear zl47 c22_71) (retK [.tmp 10])) (retK [.tmp 10])))))) (postK zl46 (loopK L b22_6 (blockK 0 (seqK (code L (.clear zl47 c22_71) (retK [.tmp 10])) (retK [.tmp 10])))))))) (blockK 1 (seqK (code L (.clear zl46 c22_70) (postK zl46 (loopK L b22_6 (blockK 0 (seqK (code L (.clear zl47 c22_71) (retK [.tmp 10])) (retK [.tmp 10])))))) (postK zl46 (loopK L b22_6 (blockK 0 (seqK (code L (.clear zl47 c22_71) (retK [.tmp 10])) (retK [.tmp 10]))))))))) (s22_27 x1 x1n x1c x2 x2n x2c x3 x4 x5 x11 x12 x12n x13 M) M) (P22_62 : Rec → (Option Addr) → Nat → Nat → (Option Addr) → Nat → Nat → Int → Int → Nat → Int → Nat → Nat → Int → AMem → Res) (hP22_62 : Eq P22_62 fun L x1 x1n x1c x2 x2n x2c x3 x4 x5 x11 x12 x12n x13 M => code L (.ops o22_62) (postK zl44 (loopK L b22_27 (blockK 2 (seqK (code L (.clear zl45 c22_63) (blockK 1 (seqK (code L (.clear zl46 c22_70) (postK zl46 (loopK L b22_6 (blockK 0 (seqK (code L (.clear zl47 c22_71) (retK [.tmp 10])) (retK [.tmp 10])))))) (postK zl46 (loopK L b22_6 (blockK 0 (seqK (code L (.clear zl47 c22_71) (retK [.tmp 10])) (retK [.tmp 10])))))))) (blockK 1 (seqK (code L (.clear zl46 c22_70) (postK zl46 (loopK L b22_6 (blockK 0 (seqK (code L (.clear zl47 c22_71) (retK [.tmp 10])) (retK [.tmp 10])))))) (postK zl46 (loopK L b22_6 (blockK 0 (seqK (code L (.clear zl47 c22_71) (retK [.tmp 10])) (retK [.tmp 10]))))))))))) (s22_62 x1 x1n x1c x2 x2n x2c x3 x4 x5 x11 x12 x12n x13 M) M) (x1 : Option Addr) (x1n : Nat) (x1c : Nat) (x2 : Option Addr) (x2n : Nat) (x2c : Nat) (x3 : Int) (x4 : Int) (x5 : Nat) (x11 : Int) (x12 : Nat) (x12n : Nat) (x13 : Int) (M : AMem) : P22_62 L x1 x1n x1c x2 x2n x2c x3 x4 x5 x11 x12 x12n x13 M =
  P22_27 L x1 x1n x1c x2 x2n x2c x3 x4 x5 x11 x12 x12n (IntKind.wrap .i64 (x13 + 1)) M := by
  subst hP22_27; subst hP22_62; kernel_rfl
theorem P22_62_eq (L : Rec) (x1 : Option Addr) (x1n : Nat) (x1c : Nat) (x2 : Option Addr) (x2n : Nat) (x2c : Nat) (x3 : Int) (x4 : Int) (x5 : Nat) (x11 : Int) (x12 : Nat) (x12n : Nat) (x13 : Int) (M : AMem) : P22_62 L x1 x1n x1c x2 x2n x2c x3 x4 x5 x11 x12 x12n x13 M =
  P22_27 L x1 x1n x1c x2 x2n x2c x3 x4 x5 x11 x12 x12n (IntKind.wrap .i64 (x13 + 1)) M := QP22_62_eq L b22_27 b22_6 c22_63 c22_70 c22_71 P22_27 (Classical.choose_spec XP22_27) P22_62 (Classical.choose_spec XP22_62) x1 x1n x1c x2 x2n x2c x3 x4 x5 x11 x12 x12n x13 M
theorem QP22_47_eq (L : Rec) (b22_27 b22_47 b22_6 c22_61 c22_62 c22_63 c22_70 c22_71 : ACode) (hb : ∀ K t A, L.loop b22_47 K t A = code L (.post (.seq (.seq (.ops o22_50) (.cond (.tmp 74) (.skip) (.exit 4))) (.seq (.block 5 (.seq (.ops o22_57) (.seq (.ops o22_59) (.ops o22_60)))) (.clear zl42 c22_61))) zl42) (loopK L b22_47 K) t A) (P22_62 : Rec → (Option Addr) → Nat → Nat → (Option Addr) → Nat → Nat → Int → Int → Nat → Int → Nat → Nat → Int → AMem → Res) (hP22_62 : Eq P22_62 fun L x1 x1n x1c x2 x2n x2c x3 x4 x5 x11 x12 x12n x13 M => code L c22_62 (postK zl44 (loopK L b22_27 (blockK 2 (seqK (code L (.clear zl45 c22_63) (blockK 1 (seqK (code L (.clear zl46 c22_70) (postK zl46 (loopK L b22_6 (blockK 0 (seqK (code L (.clear zl47 c22_71) (retK [.tmp 10])) (retK [.tmp 10])))))) (postK zl46 (loopK L b22_6 (blockK 0 (seqK (code L (.clear zl47 c22_71) (retK [.tmp 10])) (retK [.tmp 10])))))))) (blockK 1 (seqK (code L (.clear zl46 c22_70) (postK zl46 (loopK L b22_6 (blockK 0 (seqK (code L (.clear zl47 c22_71) (retK [.tmp 10])) (retK [.tmp 10])))))) (postK zl46 (loopK L b22_6 (blockK 0 (seqK (code L (.clear zl47 c22_71) (retK [.tmp 10])) (retK [.tmp 10]))))))))))) (s22_62 x1 x1n x1c x2 x2n x2c x3 x4 x5 x11 x12 x12n x13 M) M) (P22_47 : Rec → (Option Addr) → Nat → Nat → (Option Addr) → Nat → Nat → Int → Int → Nat → Int → Nat → Nat → Int → Int → AMem → Res) (hP22_47 : Eq P22_47 fun L x1 x1n x1c x2 x2n x2c x3 x4 x5 x11 x12 x12n x13 x16 M => L.loop b22_47 (blockK 4 (blockK 3 (seqK (code L (.clear zl44 c22_62) (postK zl44 (loopK L b22_27 (blockK 2 (seqK (code L (.clear zl45 c22_63) (blockK 1 (seqK (code L (.clear zl46 c22_70) (postK zl46 (loopK L b22_6 (blockK 0 (seqK (code L (.clear zl47 c22_71) (retK [.tmp 10])) (retK [.tmp 10])))))) (postK zl46 (loopK L b22_6 (blockK 0 (seqK (code L (.clear zl47 c22_71) (retK [.tmp 10])) (retK [.tmp 10])))))))) (blockK 1 (seqK (code L (.clear zl46 c22_70) (postK zl46 (loopK L b22_6 (blockK 0 (seqK (code L (.clear zl47 c22_71) (retK [.tmp 10])) (retK [.tmp 10])))))) (postK zl46 (loopK L b22_6 (blockK 0 (seqK (code L (.clear zl47 c22_71) (retK [.tmp 10])) (retK [.tmp 10])))))))))))) (postK zl44 (loopK L b22_27 (blockK 2 (seqK (code L (.clear zl45 c22_63) (blockK 1 (seqK (code L (.clear zl46 c22_70) (postK zl46 (loopK L b22_6 (blockK 0 (seqK (code L (.clear zl47 c22_71) (retK [.tmp 10])) (retK [.tmp 10])))))) (postK zl46 (loopK L b22_6 (blockK 0 (seqK (code L (.clear zl47 c22_71) (retK [.tmp 10])) (retK [.tmp 10])))))))) (blockK 1 (seqK (code L (.clear zl46 c22_70) (postK zl46 (loopK L b22_6 (blockK 0 (seqK (code L (.clear zl47 c22_71) (retK [.tmp 10])) (retK [.tmp 10])))))) (postK zl46 (loopK L b22_6 (blockK 0 (seqK (code L (.clear zl47 c22_71) (retK [.tmp 10])) (retK [.tmp 10])))))))))))))) (s22_47 x1 x1n x1c x2 x2n x2c x3 x4 x5 x11 x12 x12n x13 x16 M) M) (P22_61 : Rec → (Option Addr) → Nat → Nat → (Option Addr) → Nat → Nat → Int → Int → Nat → Int → Nat → Nat → Int → Int → AMem → Res) (hP22_61 : Eq P22_61 fun L x1 x1n x1c x2 x2n x2c x3 x4 x5 x11 x12 x12n x13 x16 M => code L c22_61 (postK zl42 (loopK L b22_47 (blockK 4 (blockK 3 (seqK (code L (.clear zl44 c22_62) (postK zl44 (loopK L b22_27 (blockK 2 (seqK (code L (.clear zl45 c22_63) (blockK 1 (seqK (code L (.clear zl46 c22_70) (postK zl46 (loopK L b22_6 (blockK 0 (seqK (code L (.clear zl47 c22_71) (retK [.tmp 10])) (retK [.tmp 10])))))) (postK zl46 (loopK L b22_6 (blockK 0 (seqK (code L (.clear zl47 c22_71) (retK [.tmp 10])) (retK [.tmp 10])))))))) (blockK 1 (seqK (code L (.clear zl46 c22_70) (postK zl46 (loopK L b22_6 (blockK 0 (seqK (code L (.clear zl47 c22_71) (retK [.tmp 10])) (retK [.tmp 10])))))) (postK zl46 (loopK L b22_6 (blockK 0 (seqK (code L (.clear zl47 c22_71) (retK [.tmp 10])) (retK [.tmp 10])))))))))))) (postK zl44 (loopK L b22_27 (blockK 2 (seqK (code L (.clear zl45 c22_63) (blockK 1 (seqK (code L (.clear zl46 c22_70) (postK zl46 (loopK L b22_6 (blockK 0 (seqK (code L (.clear zl47 c22_71) (retK [.tmp 10])) (retK [.tmp 10])))))) (postK zl46 (loopK L b22_6 (blockK 0 (seqK (code L (.clear zl47 c22_71) (retK [.tmp 10])) (retK [.tmp 10])))))))) (blockK 1 (seqK (code L (.clear zl46 c22_70) (postK zl46 (loopK L b22_6 (blockK 0 (seqK (code L (.clear zl47 c22_71) (retK [.tmp 10])) (retK [.tmp 10])))))) (postK zl46 (loopK L b22_6 (blockK 0 (seqK (code L (.clear zl47 c22_71) (retK [.tmp 10])) (retK [.tmp 10])))))))))))))))) (s22_61 x1 x1n x1c x2 x2n x2c x3 x4 x5 x11 x12 x12n x13 x16 M) M) (x1 : Option Addr) (x1n : Nat) (x1c : Nat) (x2 : Option Addr) (x2n : Nat) (x2c : Nat) (x3 : Int) (x4 : Int) (x5 : Nat) (x11 : Int) (x12 : Nat) (x12n : Nat) (x13 : Int) (x16 : Int) (M : AMem) : P22_47 L x1 x1n x1c x2 x2n x2c x3 x4 x5 x11 x12 x12n x13 x16 M =
  (match x1 with
    | some a_1 => (if (0 : Int) ≤ x13 ∧ x13 < (Int.ofNat x1n)
      then (Option.bind (sliceOf? (AMem.ld M a_1.block ((a_1.off + ((Int.toNat x13) * 2)) + 1))) fun s_2 =>
        (if (decide (x16 < (Int.ofNat s_2.2.1))) = true
        then (match x1 with
          | some a_3 => (if (0 : Int) ≤ x13 ∧ x13 < (Int.ofNat x1n)
            then (Option.bind (sliceOf? (AMem.ld M a_3.block ((a_3.off + ((Int.toNat x13) * 2)) + 1))) fun s_4 =>
              (match s_4.1 with
              | some a_5 => (if (0 : Int) ≤ x16 ∧ x16 < (Int.ofNat s_4.2.1)
                then (Option.bind (intOf? .i64 (AMem.ld M a_5.block (a_5.off + ((Int.toNat x16) * 4)))) fun x_6 =>
                  (Option.bind (intOf? .u64 (AMem.ld M a_5.block ((a_5.off + ((Int.toNat x16) * 4)) + 1))) fun x_7 =>
                  (Option.bind (intOf? .u64 (AMem.ld M a_5.block ((a_5.off + ((Int.toNat x16) * 4)) + 2))) fun x_8 =>
                  (Option.bind (intOf? .u64 (AMem.ld M a_5.block ((a_5.off + ((Int.toNat x16) * 4)) + 3))) fun x_9 =>
                  (Option.bind (AMem.wr (M ++ [AObj.cells [.int .i64 0, .int .u64 0, .int .u64 0, .int .u64 0] ⟨false, 0⟩]) (List.length M) 0 [.int .i64 x_6, .int .u64 x_7, .int .u64 x_8, .int .u64 x_9]) fun M_10 =>
                  (Option.bind (intOf? .i64 (AMem.ld M_10 (List.length M) 0)) fun x_11 =>
                  (if (0 : Int) ≤ x_11 ∧ x_11 < (Int.ofNat x12n)
                  then (Option.bind (intOf? .u64 (AMem.ld M_10 x12 (0 + ((Int.toNat x_11) * 3)))) fun x_12 =>
                    (Option.bind (intOf? .u64 (AMem.ld M_10 x12 ((0 + ((Int.toNat x_11) * 3)) + 1))) fun x_13 =>
                    (Option.bind (intOf? .u64 (AMem.ld M_10 x12 ((0 + ((Int.toNat x_11) * 3)) + 2))) fun x_14 =>
                    (Option.bind (AMem.wr (M_10 ++ [AObj.cells [.int .u64 0, .int .u64 0, .int .u64 0] ⟨false, 0⟩]) (List.length M_10) 0 [.int .u64 x_12, .int .u64 x_13, .int .u64 x_14]) fun M_15 =>
                    (Option.bind (intOf? .i64 (AMem.ld M_15 (List.length M) 0)) fun x_16 =>
                    (Option.bind (intOf? .u64 (AMem.ld M_15 (List.length M_10) 0)) fun x_17 =>
                    (Option.bind (intOf? .u64 (AMem.ld M_15 (List.length M) 1)) fun x_18 =>
                    (Option.bind (intOf? .u64 (AMem.ld M_15 (List.length M_10) 1)) fun x_19 =>
                    (Option.bind (intOf? .u64 (AMem.ld M_15 (List.length M) 2)) fun x_20 =>
                    (Option.bind (intOf? .u64 (AMem.ld M_15 (List.length M_10) 2)) fun x_21 =>
                    (Option.bind (intOf? .u64 (AMem.ld M_15 (List.length M) 3)) fun x_22 =>
                    (if (0 : Int) ≤ x_16 ∧ x_16 < (Int.ofNat x12n)
                    then (Option.bind (AMem.wr M_15 x12 (0 + ((Int.toNat x_16) * 3)) [.int .u64 (IntKind.wrap .u64 (x_17 + x_18)), .int .u64 (IntKind.wrap .u64 (x_19 + x_20)), .int .u64 (IntKind.wrap .u64 (x_21 + x_22))]) fun M_23 =>
                      P22_61 L x1 x1n x1c x2 x2n x2c x3 x4 x5 x11 x12 x12n x13 x16 M_23)
                    else none))))))))))))
                  else none)))))))
                else none)
              | none => none))
            else none)
          | none => none)
        else P22_62 L x1 x1n x1c x2 x2n x2c x3 x4 x5 x11 x12 x12n x13 M))
      else none)
    | none => none) := by
  subst hP22_62; subst hP22_47; subst hP22_61; exact (hb (blockK 4 (blockK 3 (seqK (code L (.clear zl44 c22_62) (postK zl44 (loopK L b22_27 (blockK 2 (seqK (code L (.clear zl45 c22_63) (blockK 1 (seqK (code L (.clear zl46 c22_70) (postK zl46 (loopK L b22_6 (blockK 0 (seqK (code L (.clear zl47 c22_71) (retK [.tmp 10])) (retK [.tmp 10])))))) (postK zl46 (loopK L b22_6 (blockK 0 (seqK (code L (.clear zl47 c22_71) (retK [.tmp 10])) (retK [.tmp 10])))))))) (blockK 1 (seqK (code L (.clear zl46 c22_70) (postK zl46 (loopK L b22_6 (blockK 0 (seqK (code L (.clear zl47 c22_71) (retK [.tmp 10])) (retK [.tmp 10])))))) (postK zl46 (loopK L b22_6 (blockK 0 (seqK (code L (.clear zl47 c22_71) (retK [.tmp 10])) (retK [.tmp 10])))))))))))) (postK zl44 (loopK L b22_27 (blockK 2 (seqK (code L (.clear zl45 c22_63) (blockK 1 (seqK (code L (.clear zl46 c22_70) (postK zl46 (loopK L b22_6 (blockK 0 (seqK (code L (.clear zl47 c22_71) (retK [.tmp 10])) (retK [.tmp 10])))))) (postK zl46 (loopK L b22_6 (blockK 0 (seqK (code L (.clear zl47 c22_71) (retK [.tmp 10])) (retK [.tmp 10])))))))) (blockK 1 (seqK (code L (.clear zl46 c22_70) (postK zl46 (loopK L b22_6 (blockK 0 (seqK (code L (.clear zl47 c22_71) (retK [.tmp 10])) (retK [.tmp 10])))))) (postK zl46 (loopK L b22_6 (blockK 0 (seqK (code L (.clear zl47 c22_71) (retK [.tmp 10])) (retK [.tmp 10])))))))))))))) (s22_47 x1 x1n x1c x2 x2n x2c x3 x4 x5 x11 x12 x12n x13 x16 M) M).trans (by kernel_rfl)
theorem P22_47_eq (L : Rec) (hL : ∀ b K t A, L.loop b K t A = code L b (loopK L b K) t A) (x1 : Option Addr) (x1n : Nat) (x1c : Nat) (x2 : Option Addr) (x2n : Nat) (x2c : Nat) (x3 : Int) (x4 : Int) (x5 : Nat) (x11 : Int) (x12 : Nat) (x12n : Nat) (x13 : Int) (x16 : Int) (M : AMem) : P22_47 L x1 x1n x1c x2 x2n x2c x3 x4 x5 x11 x12 x12n x13 x16 M =
  (match x1 with
    | some a_1 => (if (0 : Int) ≤ x13 ∧ x13 < (Int.ofNat x1n)
      then (Option.bind (sliceOf? (AMem.ld M a_1.block ((a_1.off + ((Int.toNat x13) * 2)) + 1))) fun s_2 =>
        (if (decide (x16 < (Int.ofNat s_2.2.1))) = true
        then (match x1 with
          | some a_3 => (if (0 : Int) ≤ x13 ∧ x13 < (Int.ofNat x1n)
            then (Option.bind (sliceOf? (AMem.ld M a_3.block ((a_3.off + ((Int.toNat x13) * 2)) + 1))) fun s_4 =>
              (match s_4.1 with
              | some a_5 => (if (0 : Int) ≤ x16 ∧ x16 < (Int.ofNat s_4.2.1)
                then (Option.bind (intOf? .i64 (AMem.ld M a_5.block (a_5.off + ((Int.toNat x16) * 4)))) fun x_6 =>
                  (Option.bind (intOf? .u64 (AMem.ld M a_5.block ((a_5.off + ((Int.toNat x16) * 4)) + 1))) fun x_7 =>
                  (Option.bind (intOf? .u64 (AMem.ld M a_5.block ((a_5.off + ((Int.toNat x16) * 4)) + 2))) fun x_8 =>
                  (Option.bind (intOf? .u64 (AMem.ld M a_5.block ((a_5.off + ((Int.toNat x16) * 4)) + 3))) fun x_9 =>
                  (Option.bind (AMem.wr (M ++ [AObj.cells [.int .i64 0, .int .u64 0, .int .u64 0, .int .u64 0] ⟨false, 0⟩]) (List.length M) 0 [.int .i64 x_6, .int .u64 x_7, .int .u64 x_8, .int .u64 x_9]) fun M_10 =>
                  (Option.bind (intOf? .i64 (AMem.ld M_10 (List.length M) 0)) fun x_11 =>
                  (if (0 : Int) ≤ x_11 ∧ x_11 < (Int.ofNat x12n)
                  then (Option.bind (intOf? .u64 (AMem.ld M_10 x12 (0 + ((Int.toNat x_11) * 3)))) fun x_12 =>
                    (Option.bind (intOf? .u64 (AMem.ld M_10 x12 ((0 + ((Int.toNat x_11) * 3)) + 1))) fun x_13 =>
                    (Option.bind (intOf? .u64 (AMem.ld M_10 x12 ((0 + ((Int.toNat x_11) * 3)) + 2))) fun x_14 =>
                    (Option.bind (AMem.wr (M_10 ++ [AObj.cells [.int .u64 0, .int .u64 0, .int .u64 0] ⟨false, 0⟩]) (List.length M_10) 0 [.int .u64 x_12, .int .u64 x_13, .int .u64 x_14]) fun M_15 =>
                    (Option.bind (intOf? .i64 (AMem.ld M_15 (List.length M) 0)) fun x_16 =>
                    (Option.bind (intOf? .u64 (AMem.ld M_15 (List.length M_10) 0)) fun x_17 =>
                    (Option.bind (intOf? .u64 (AMem.ld M_15 (List.length M) 1)) fun x_18 =>
                    (Option.bind (intOf? .u64 (AMem.ld M_15 (List.length M_10) 1)) fun x_19 =>
                    (Option.bind (intOf? .u64 (AMem.ld M_15 (List.length M) 2)) fun x_20 =>
                    (Option.bind (intOf? .u64 (AMem.ld M_15 (List.length M_10) 2)) fun x_21 =>
                    (Option.bind (intOf? .u64 (AMem.ld M_15 (List.length M) 3)) fun x_22 =>
                    (if (0 : Int) ≤ x_16 ∧ x_16 < (Int.ofNat x12n)
                    then (Option.bind (AMem.wr M_15 x12 (0 + ((Int.toNat x_16) * 3)) [.int .u64 (IntKind.wrap .u64 (x_17 + x_18)), .int .u64 (IntKind.wrap .u64 (x_19 + x_20)), .int .u64 (IntKind.wrap .u64 (x_21 + x_22))]) fun M_23 =>
                      P22_61 L x1 x1n x1c x2 x2n x2c x3 x4 x5 x11 x12 x12n x13 x16 M_23)
                    else none))))))))))))
                  else none)))))))
                else none)
              | none => none))
            else none)
          | none => none)
        else P22_62 L x1 x1n x1c x2 x2n x2c x3 x4 x5 x11 x12 x12n x13 M))
      else none)
    | none => none) := QP22_47_eq L b22_27 b22_47 b22_6 c22_61 c22_62 c22_63 c22_70 c22_71 (hL b22_47) P22_62 (Classical.choose_spec XP22_62) P22_47 (Classical.choose_spec XP22_47) P22_61 (Classical.choose_spec XP22_61) x1 x1n x1c x2 x2n x2c x3 x4 x5 x11 x12 x12n x13 x16 M
theorem QP22_61_eq (L : Rec) (b22_27 b22_47 b22_6 c22_62 c22_63 c22_70 c22_71 : ACode) (P22_47 : Rec → (Option Addr) → Nat → Nat → (Option Addr) → Nat → Nat → Int → Int → Nat → Int → Nat → Nat → Int → Int → AMem → Res) (hP22_47 : Eq P22_47 fun L x1 x1n x1c x2 x2n x2c x3 x4 x5 x11 x12 x12n x13 x16 M => L.loop b22_47 (blockK 4 (blockK 3 (seqK (code L (.clear zl44 c22_62) (postK zl44 (loopK L b22_27 (blockK 2 (seqK (code L (.clear zl45 c22_63) (blockK 1 (seqK (code L (.clear zl46 c22_70) (postK zl46 (loopK L b22_6 (blockK 0 (seqK (code L (.clear zl47 c22_71) (retK [.tmp 10])) (retK [.tmp 10])))))) (postK zl46 (loopK L b22_6 (blockK 0 (seqK (code L (.clear zl47 c22_71) (retK [.tmp 10])) (retK [.tmp 10])))))))) (blockK 1 (seqK (code L (.clear zl46 c22_70) (postK zl46 (loopK L b22_6 (blockK 0 (seqK (code L (.clear zl47 c22_71) (retK [.tmp 10])) (retK [.tmp 10])))))) (postK zl46 (loopK L b22_6 (blockK 0 (seqK (code L (.clear zl47 c22_71) (retK [.tmp 10])) (retK [.tmp 10])))))))))))) (postK zl44 (loopK L b22_27 (blockK 2 (seqK (code L (.clear zl45 c22_63) (blockK 1 (seqK (code L (.clear zl46 c22_70) (postK zl46 (loopK L b22_6 (blockK 0 (seqK (code L (.clear zl47 c22_71) (retK [.tmp 10])) (retK [.tmp 10])))))) (postK zl46 (loopK L b22_6 (blockK 0 (seqK (code L (.clear zl47 c22_71) (retK [.tmp 10])) (retK [.tmp 10])))))))) (blockK 1 (seqK (code L (.clear zl46 c22_70) (postK zl46 (loopK L b22_6 (blockK 0 (seqK (code L (.clear zl47 c22_71) (retK [.tmp 10])) (retK [.tmp 10])))))) (postK zl46 (loopK L b22_6 (blockK 0 (seqK (code L (.clear zl47 c22_71) (retK [.tmp 10])) (retK [.tmp 10])))))))))))))) (s22_47 x1 x1n x1c x2 x2n x2c x3 x4 x5 x11 x12 x12n x13 x16 M) M) (P22_61 : Rec → (Option Addr) → Nat → Nat → (Option Addr) → Nat → Nat → Int → Int → Nat → Int → Nat → Nat → Int → Int → AMem → Res) (hP22_61 : Eq P22_61 fun L x1 x1n x1c x2 x2n x2c x3 x4 x5 x11 x12 x12n x13 x16 M => code L (.ops o22_61) (postK zl42 (loopK L b22_47 (blockK 4 (blockK 3 (seqK (code L (.clear zl44 c22_62) (postK zl44 (loopK L b22_27 (blockK 2 (seqK (code L (.clear zl45 c22_63) (blockK 1 (seqK (code L (.clear zl46 c22_70) (postK zl46 (loopK L b22_6 (blockK 0 (seqK (code L (.clear zl47 c22_71) (retK [.tmp 10])) (retK [.tmp 10])))))) (postK zl46 (loopK L b22_6 (blockK 0 (seqK (code L (.clear zl47 c22_71) (retK [.tmp 10])) (retK [.tmp 10])))))))) (blockK 1 (seqK (code L (.clear zl46 c22_70) (postK zl46 (loopK L b22_6 (blockK 0 (seqK (code L (.clear zl47 c22_71) (retK [.tmp 10])) (retK [.tmp 10])))))) (postK zl46 (loopK L b22_6 (blockK 0 (seqK (code L (.clear zl47 c22_71) (retK [.tmp 10])) (retK [.tmp 10])))))))))))) (postK zl44 (loopK L b22_27 (blockK 2 (seqK (code L (.clear zl45 c22_63) (blockK 1 (seqK (code L (.clear zl46 c22_70) (postK zl46 (loopK L b22_6 (blockK 0 (seqK (code L (.clear zl47 c22_71) (retK [.tmp 10])) (retK [.tmp 10])))))) (postK zl46 (loopK L b22_6 (blockK 0 (seqK (code L (.clear zl47 c22_71) (retK [.tmp 10])) (retK [.tmp 10])))))))) (blockK 1 (seqK (code L (.clear zl46 c22_70) (postK zl46 (loopK L b22_6 (blockK 0 (seqK (code L (.clear zl47 c22_71) (retK [.tmp 10])) (retK [.tmp 10])))))) (postK zl46 (loopK L b22_6 (blockK 0 (seqK (code L (.clear zl47 c22_71) (retK [.tmp 10])) (retK [.tmp 10])))))))))))))))) (s22_61 x1 x1n x1c x2 x2n x2c x3 x4 x5 x11 x12 x12n x13 x16 M) M) (x1 : Option Addr) (x1n : Nat) (x1c : Nat) (x2 : Option Addr) (x2n : Nat) (x2c : Nat) (x3 : Int) (x4 : Int) (x5 : Nat) (x11 : Int) (x12 : Nat) (x12n : Nat) (x13 : Int) (x16 : Int) (M : AMem) : P22_61 L x1 x1n x1c x2 x2n x2c x3 x4 x5 x11 x12 x12n x13 x16 M =
  P22_47 L x1 x1n x1c x2 x2n x2c x3 x4 x5 x11 x12 x12n x13 (IntKind.wrap .i64 (x16 + 1)) M := by
  subst hP22_47; subst hP22_61; kernel_rfl
theorem P22_61_eq (L : Rec) (x1 : Option Addr) (x1n : Nat) (x1c : Nat) (x2 : Option Addr) (x2n : Nat) (x2c : Nat) (x3 : Int) (x4 : Int) (x5 : Nat) (x11 : Int) (x12 : Nat) (x12n : Nat) (x13 : Int) (x16 : Int) (M : AMem) : P22_61 L x1 x1n x1c x2 x2n x2c x3 x4 x5 x11 x12 x12n x13 x16 M =
  P22_47 L x1 x1n x1c x2 x2n x2c x3 x4 x5 x11 x12 x12n x13 (IntKind.wrap .i64 (x16 + 1)) M := QP22_61_eq L b22_27 b22_47 b22_6 c22_62 c22_63 c22_70 c22_71 P22_47 (Classical.choose_spec XP22_47) P22_61 (Classical.choose_spec XP22_61) x1 x1n x1c x2 x2n x2c x3 x4 x5 x11 x12 x12n x13 x16 M
theorem QE22 (L : Rec) (b22_6 c22_71 : ACode) (P22_6 : Rec → (Option Addr) → Nat → Nat → (Option Addr) → Nat → Nat → Int → Int → Nat → Int → AMem → Res) (hP22_6 : Eq P22_6 fun L x1 x1n x1c x2 x2n x2c x3 x4 x5 x11 M => L.loop b22_6 (blockK 0 (seqK (code L (.clear zl47 c22_71) (retK [.tmp 10])) (retK [.tmp 10]))) (s22_6 x1 x1n x1c x2 x2n x2c x3 x4 x5 x11 M) M) (x0_0 : Int) (x0_1 : Int) (x1 : Option Addr) (x1n : Nat) (x1c : Nat) (x2 : Option Addr) (x2n : Nat) (x2c : Nat) (x3 : Int) (x4 : Int) (M : AMem) : enterF L ⟨116, [.tmp 10], .seq (.ops o22_1) (.seq (.seq (.ops o22_4) (.block 0 (.clear zl46 (.loop b22_6)))) (.clear zl47 c22_71))⟩ [.agg #[.int .i64 x0_0, .int .i64 x0_1], .slice x1 x1n x1c, .slice x2 x2n x2c, .int .i64 x3, .int .i64 x4] M =
  P22_6 L x1 x1n x1c x2 x2n x2c x3 x4 (List.length M) 0 (M ++ [AObj.cells [.int .i64 x0_0, .int .i64 x0_1] ⟨false, 0⟩]) := by
  subst hP22_6; kernel_rfl
theorem E22 (L : Rec) (x0_0 : Int) (x0_1 : Int) (x1 : Option Addr) (x1n : Nat) (x1c : Nat) (x2 : Option Addr) (x2n : Nat) (x2c : Nat) (x3 : Int) (x4 : Int) (M : AMem) : enterF L a22 [.agg #[.int .i64 x0_0, .int .i64 x0_1], .slice x1 x1n x1c, .slice x2 x2n x2c, .int .i64 x3, .int .i64 x4] M =
  P22_6 L x1 x1n x1c x2 x2n x2c x3 x4 (List.length M) 0 (M ++ [AObj.cells [.int .i64 x0_0, .int .i64 x0_1] ⟨false, 0⟩]) := QE22 L b22_6 c22_71 P22_6 (Classical.choose_spec XP22_6) x0_0 x0_1 x1 x1n x1c x2 x2n x2c x3 x4 M
end Go.Proofs.Ytpnknolehckfhaa
