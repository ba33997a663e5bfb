/- What the pieces of some functions come to. -/
import Derived.Test.YtaepdefnomcllaaCode
set_option linter.unusedVariables false
set_option maxRecDepth 100000
namespace Go.Proofs.Ytaepdefnomcllaa
open Go Go.Ax
/-! #### skylightlaw30.same -/
noncomputable def k34_14 (L : Rec) : KT := blockK 0 (seqK (code L (.clear [0, 1, 2, 3, 4, 5, 6, 7, 8, 9, 10, 11, 12, 13, 14, 15, 16, 17, 18, 19, 20, 21, 22, 23, 24, 25] c34_31) (retK [.tmp 4])) (retK [.tmp 4]))
def s34_14 (x0 : Option Addr) (x0n : Nat) (x0c : Nat) (x1 : Option Addr) (x1n : Nat) (x1c : Nat) (x5 : Int) (M : AMem) : List Value := [.slice x0 x0n x0c, .slice x1 x1n x1c, junk, junk, junk, .int .i64 x5, junk, junk, junk, junk, junk, junk, junk, junk, junk, junk, junk, junk, junk, junk, junk, junk, junk, junk, junk, junk]
theorem XP34_14 : ∃ P : Rec → (Option Addr) → Nat → Nat → (Option Addr) → Nat → Nat → Int → AMem → Res, P = fun (L : Rec) (x0 : Option Addr) (x0n : Nat) (x0c : Nat) (x1 : Option Addr) (x1n : Nat) (x1c : Nat) (x5 : Int) (M : AMem) => L.loop b34_14 (k34_14 L) (s34_14 x0 x0n x0c x1 x1n x1c x5 M) M := ⟨_, rfl⟩
noncomputable def P34_14 : Rec → (Option Addr) → Nat → Nat → (Option Addr) → Nat → Nat → Int → AMem → Res := Classical.choose XP34_14
noncomputable def k34_30 (L : Rec) : KT := postK [2, 3, 4, 6, 7, 8, 9, 10, 11, 12, 13, 14, 15, 16, 17, 18, 19, 20, 21, 22, 23, 24, 25] (loopK L b34_14 (blockK 0 (seqK (code L (.clear [0, 1, 2, 3, 4, 5, 6, 7, 8, 9, 10, 11, 12, 13, 14, 15, 16, 17, 18, 19, 20, 21, 22, 23, 24, 25] c34_31) (retK [.tmp 4])) (retK [.tmp 4]))))
def s34_30 (x0 : Option Addr) (x0n : Nat) (x0c : Nat) (x1 : Option Addr) (x1n : Nat) (x1c : Nat) (x5 : Int) (M : AMem) : List Value := [.slice x0 x0n x0c, .slice x1 x1n x1c, junk, junk, junk, .int .i64 x5, junk, junk, junk, junk, junk, junk, junk, junk, junk, junk, junk, junk, junk, junk, junk, junk, junk, junk, junk, junk]
theorem XP34_30 : ∃ P : Rec → (Option Addr) → Nat → Nat → (Option Addr) → Nat → Nat → Int → AMem → Res, P = fun (L : Rec) (x0 : Option Addr) (x0n : Nat) (x0c : Nat) (x1 : Option Addr) (x1n : Nat) (x1c : Nat) (x5 : Int) (M : AMem) => code L c34_30 (k34_30 L) (s34_30 x0 x0n x0c x1 x1n x1c x5 M) M := ⟨_, rfl⟩
noncomputable def P34_30 : Rec → (Option Addr) → Nat → Nat → (Option Addr) → Nat → Nat → Int → AMem → Res := Classical.choose XP34_30
noncomputable def k34_31 (L : Rec) : KT := retK [.tmp 4]
def s34_31 (M : AMem) : List Value := [junk, junk, junk, junk, junk, junk, junk, junk, junk, junk, junk, junk, junk, junk, junk, junk, junk, junk, junk, junk, junk, junk, junk, junk, junk, junk]
theorem XP34_31 : ∃ P : Rec → AMem → Res, P = fun (L : Rec) (M : AMem) => code L c34_31 (k34_31 L) (s34_31 M) M := ⟨_, rfl⟩
noncomputable def P34_31 : Rec → AMem → Res := Classical.choose XP34_31
theorem G34_14 (L : Rec) (b34_14 c34_30 c34_31 : ACode) (x0 : Option Addr) (x0n : Nat) (x0c : Nat) (x1 : Option Addr) (x1n : Nat) (x1c : Nat) (x5 : Int) (M : AMem) : code L (.post (.seq (.seq (.ops o34_17) (.cond (.tmp 14) (.skip) (.exit 0))) (.seq (.block 1 (.seq (.draw [] 0 o34_24 []) (.cond (.tmp 25) (.seq (.ops o34_27) (.ret)) (.skip)))) (.clear [2, 3, 4, 6, 7, 8, 9, 10, 11, 12, 13, 14, 15, 16, 17, 18, 19, 20, 21, 22, 23, 24, 25] c34_30))) [2, 3, 4, 6, 7, 8, 9, 10, 11, 12, 13, 14, 15, 16, 17, 18, 19, 20, 21, 22, 23, 24, 25]) (loopK L b34_14 (blockK 0 (seqK (code L (.clear [0, 1, 2, 3, 4, 5, 6, 7, 8, 9, 10, 11, 12, 13, 14, 15, 16, 17, 18, 19, 20, 21, 22, 23, 24, 25] c34_31) (retK [.tmp 4])) (retK [.tmp 4])))) [.slice x0 x0n x0c, .slice x1 x1n x1c, junk, junk, junk, .int .i64 x5, junk, junk, junk, junk, junk, junk, junk, junk, junk, junk, junk, junk, junk, junk, junk, junk, junk, junk, junk, junk] M =
  (if (decide (x5 < (Int.ofNat x0n))) = true
    then (match x0 with
      | some a_1 => (if 0 ≤ x5 ∧ x5 < (Int.ofNat x0n)
        then (Option.bind (intOf? .u64 (AMem.ld M a_1.block (a_1.off + ((Int.toNat x5) * 1)))) fun x_2 =>
          (match x1 with
          | some a_3 => (if 0 ≤ x5 ∧ x5 < (Int.ofNat x1n)
            then (Option.bind (intOf? .u64 (AMem.ld M a_3.block (a_3.off + ((Int.toNat x5) * 1)))) fun x_4 =>
              (if (x_2 != x_4) = true
              then some (.bool false, M)
              else code L c34_30 (postK [2, 3, 4, 6, 7, 8, 9, 10, 11, 12, 13, 14, 15, 16, 17, 18, 19, 20, 21, 22, 23, 24, 25] (loopK L b34_14 (blockK 0 (seqK (code L (.clear [0, 1, 2, 3, 4, 5, 6, 7, 8, 9, 10, 11, 12, 13, 14, 15, 16, 17, 18, 19, 20, 21, 22, 23, 24, 25] c34_31) (retK [.tmp 4])) (retK [.tmp 4]))))) [.slice x0 x0n x0c, .slice x1 x1n x1c, junk, junk, junk, .int .i64 x5, junk, junk, junk, junk, junk, junk, junk, junk, junk, junk, junk, junk, junk, junk, junk, junk, junk, junk, junk, junk] M))
            else none)
          | none => none))
        else none)
      | none => none)
    else code L c34_31 (retK [.tmp 4]) [junk, junk, junk, junk, junk, junk, junk, junk, junk, junk, junk, junk, junk, junk, junk, junk, junk, junk, junk, junk, junk, junk, junk, junk, junk, junk] M) := by kernel_rfl
theorem QP34_14_eq (L : Rec) (hL : ∀ b K t A, L.loop b K t A = code L b (loopK L b K) t A) (P34_14 : Rec → (Option Addr) → Nat → Nat → (Option Addr) → Nat → Nat → Int → AMem → Res) (hP34_14 : P34_14 = fun (L : Rec) (x0 : Option Addr) (x0n : Nat) (x0c : Nat) (x1 : Option Addr) (x1n : Nat) (x1c : Nat) (x5 : Int) (M : AMem) => L.loop b34_14 (k34_14 L) (s34_14 x0 x0n x0c x1 x1n x1c x5 M) M) (P34_30 : Rec → (Option Addr) → Nat → Nat → (Option Addr) → Nat → Nat → Int → AMem → Res) (hP34_30 : P34_30 = fun (L : Rec) (x0 : Option Addr) (x0n : Nat) (x0c : Nat) (x1 : Option Addr) (x1n : Nat) (x1c : Nat) (x5 : Int) (M : AMem) => code L c34_30 (k34_30 L) (s34_30 x0 x0n x0c x1 x1n x1c x5 M) M) (P34_31 : Rec → AMem → Res) (hP34_31 : P34_31 = fun (L : Rec) (M : AMem) => code L c34_31 (k34_31 L) (s34_31 M) M) (x0 : Option Addr) (x0n : Nat) (x0c : Nat) (x1 : Option Addr) (x1n : Nat) (x1c : Nat) (x5 : Int) (M : AMem) : P34_14 L x0 x0n x0c x1 x1n x1c x5 M =
  (if (decide (x5 < (Int.ofNat x0n))) = true
    then (match x0 with
      | some a_1 => (if 0 ≤ x5 ∧ x5 < (Int.ofNat x0n)
        then (Option.bind (intOf? .u64 (AMem.ld M a_1.block (a_1.off + ((Int.toNat x5) * 1)))) fun x_2 =>
          (match x1 with
          | some a_3 => (if 0 ≤ x5 ∧ x5 < (Int.ofNat x1n)
            then (Option.bind (intOf? .u64 (AMem.ld M a_3.block (a_3.off + ((Int.toNat x5) * 1)))) fun x_4 =>
              (if (x_2 != x_4) = true
              then some (.bool false, M)
              else P34_30 L x0 x0n x0c x1 x1n x1c x5 M))
            else none)
          | none => none))
        else none)
      | none => none)
    else P34_31 L M) := by
  subst hP34_14; subst hP34_30; subst hP34_31; exact Eq.trans (b := code L b34_14 (loopK L b34_14 (k34_14 L)) (s34_14 x0 x0n x0c x1 x1n x1c x5 M) M) (hL b34_14 (k34_14 L) (s34_14 x0 x0n x0c x1 x1n x1c x5 M) M) (Eq.mp (by kernel_rfl) (G34_14 L b34_14 c34_30 c34_31 x0 x0n x0c x1 x1n x1c x5 M))
theorem P34_14_eq (L : Rec) (hL : ∀ b K t A, L.loop b K t A = code L b (loopK L b K) t A) (x0 : Option Addr) (x0n : Nat) (x0c : Nat) (x1 : Option Addr) (x1n : Nat) (x1c : Nat) (x5 : Int) (M : AMem) : P34_14 L x0 x0n x0c x1 x1n x1c x5 M =
  (if (decide (x5 < (Int.ofNat x0n))) = true
    then (match x0 with
      | some a_1 => (if 0 ≤ x5 ∧ x5 < (Int.ofNat x0n)
        then (Option.bind (intOf? .u64 (AMem.ld M a_1.block (a_1.off + ((Int.toNat x5) * 1)))) fun x_2 =>
          (match x1 with
          | some a_3 => (if 0 ≤ x5 ∧ x5 < (Int.ofNat x1n)
            then (Option.bind (intOf? .u64 (AMem.ld M a_3.block (a_3.off + ((Int.toNat x5) * 1)))) fun x_4 =>
              (if (x_2 != x_4) = true
              then some (.bool false, M)
              else P34_30 L x0 x0n x0c x1 x1n x1c x5 M))
            else none)
          | none => none))
        else none)
      | none => none)
    else P34_31 L M) := QP34_14_eq L hL P34_14 (Classical.choose_spec XP34_14) P34_30 (Classical.choose_spec XP34_30) P34_31 (Classical.choose_spec XP34_31) x0 x0n x0c x1 x1n x1c x5 M
theorem G34_30 (L : Rec) (b34_14 c34_31 : ACode) (x0 : Option Addr) (x0n : Nat) (x0c : Nat) (x1 : Option Addr) (x1n : Nat) (x1c : Nat) (x5 : Int) (M : AMem) : code L (.ops o34_30) (postK [2, 3, 4, 6, 7, 8, 9, 10, 11, 12, 13, 14, 15, 16, 17, 18, 19, 20, 21, 22, 23, 24, 25] (loopK L b34_14 (blockK 0 (seqK (code L (.clear [0, 1, 2, 3, 4, 5, 6, 7, 8, 9, 10, 11, 12, 13, 14, 15, 16, 17, 18, 19, 20, 21, 22, 23, 24, 25] c34_31) (retK [.tmp 4])) (retK [.tmp 4]))))) [.slice x0 x0n x0c, .slice x1 x1n x1c, junk, junk, junk, .int .i64 x5, junk, junk, junk, junk, junk, junk, junk, junk, junk, junk, junk, junk, junk, junk, junk, junk, junk, junk, junk, junk] M =
  L.loop b34_14 (blockK 0 (seqK (code L (.clear [0, 1, 2, 3, 4, 5, 6, 7, 8, 9, 10, 11, 12, 13, 14, 15, 16, 17, 18, 19, 20, 21, 22, 23, 24, 25] c34_31) (retK [.tmp 4])) (retK [.tmp 4]))) [.slice x0 x0n x0c, .slice x1 x1n x1c, junk, junk, junk, .int .i64 (IntKind.wrap .i64 (x5 + 1)), junk, junk, junk, junk, junk, junk, junk, junk, junk, junk, junk, junk, junk, junk, junk, junk, junk, junk, junk, junk] M := by kernel_rfl
theorem QP34_30_eq (L : Rec) (P34_14 : Rec → (Option Addr) → Nat → Nat → (Option Addr) → Nat → Nat → Int → AMem → Res) (hP34_14 : P34_14 = fun (L : Rec) (x0 : Option Addr) (x0n : Nat) (x0c : Nat) (x1 : Option Addr) (x1n : Nat) (x1c : Nat) (x5 : Int) (M : AMem) => L.loop b34_14 (k34_14 L) (s34_14 x0 x0n x0c x1 x1n x1c x5 M) M) (P34_30 : Rec → (Option Addr) → Nat → Nat → (Option Addr) → Nat → Nat → Int → AMem → Res) (hP34_30 : P34_30 = fun (L : Rec) (x0 : Option Addr) (x0n : Nat) (x0c : Nat) (x1 : Option Addr) (x1n : Nat) (x1c : Nat) (x5 : Int) (M : AMem) => code L c34_30 (k34_30 L) (s34_30 x0 x0n x0c x1 x1n x1c x5 M) M) (x0 : Option Addr) (x0n : Nat) (x0c : Nat) (x1 : Option Addr) (x1n : Nat) (x1c : Nat) (x5 : Int) (M : AMem) : P34_30 L x0 x0n x0c x1 x1n x1c x5 M =
  P34_14 L x0 x0n x0c x1 x1n x1c (IntKind.wrap .i64 (x5 + 1)) M := by
  subst hP34_14; subst hP34_30; exact Eq.mp (by kernel_rfl) (G34_30 L b34_14 c34_31 x0 x0n x0c x1 x1n x1c x5 M)
theorem P34_30_eq (L : Rec) (x0 : Option Addr) (x0n : Nat) (x0c : Nat) (x1 : Option Addr) (x1n : Nat) (x1c : Nat) (x5 : Int) (M : AMem) : P34_30 L x0 x0n x0c x1 x1n x1c x5 M =
  P34_14 L x0 x0n x0c x1 x1n x1c (IntKind.wrap .i64 (x5 + 1)) M := QP34_30_eq L P34_14 (Classical.choose_spec XP34_14) P34_30 (Classical.choose_spec XP34_30) x0 x0n x0c x1 x1n x1c x5 M
theorem G34_31 (L : Rec) (M : AMem) : code L (.seq (.ops o34_32) (.ret)) (retK [.tmp 4]) [junk, junk, junk, junk, junk, junk, junk, junk, junk, junk, junk, junk, junk, junk, junk, junk, junk, junk, junk, junk, junk, junk, junk, junk, junk, junk] M =
  some (.bool true, M) := by kernel_rfl
theorem QP34_31_eq (L : Rec) (P34_31 : Rec → AMem → Res) (hP34_31 : P34_31 = fun (L : Rec) (M : AMem) => code L c34_31 (k34_31 L) (s34_31 M) M) (M : AMem) : P34_31 L M =
  some (.bool true, M) := by
  subst hP34_31; exact Eq.mp (by kernel_rfl) (G34_31 L  M)
theorem P34_31_eq (L : Rec) (M : AMem) : P34_31 L M =
  some (.bool true, M) := QP34_31_eq L P34_31 (Classical.choose_spec XP34_31) M
theorem GE34 (L : Rec) (b34_14 c34_31 : ACode) (x0 : Option Addr) (x0n : Nat) (x0c : Nat) (x1 : Option Addr) (x1n : Nat) (x1c : Nat) (M : AMem) : enterF L ⟨26, [.tmp 4], .seq (.ops o34_1) (.seq (.seq (.ops o34_4) (.cond (.tmp 10) (.seq (.ops o34_7) (.ret)) (.skip))) (.seq (.seq (.ops o34_12) (.block 0 (.clear [2, 3, 4, 6, 7, 8, 9, 10, 11, 12, 13, 14, 15, 16, 17, 18, 19, 20, 21, 22, 23, 24, 25] (.loop b34_14)))) (.clear [0, 1, 2, 3, 4, 5, 6, 7, 8, 9, 10, 11, 12, 13, 14, 15, 16, 17, 18, 19, 20, 21, 22, 23, 24, 25] c34_31)))⟩ [.slice x0 x0n x0c, .slice x1 x1n x1c] M =
  (if ((Int.ofNat x0n) != (Int.ofNat x1n)) = true
    then some (.bool false, M)
    else L.loop b34_14 (blockK 0 (seqK (code L (.clear [0, 1, 2, 3, 4, 5, 6, 7, 8, 9, 10, 11, 12, 13, 14, 15, 16, 17, 18, 19, 20, 21, 22, 23, 24, 25] c34_31) (retK [.tmp 4])) (retK [.tmp 4]))) [.slice x0 x0n x0c, .slice x1 x1n x1c, junk, junk, junk, .int .i64 0, junk, junk, junk, junk, junk, junk, junk, junk, junk, junk, junk, junk, junk, junk, junk, junk, junk, junk, junk, junk] M) := by kernel_rfl
theorem QE34 (L : Rec) (P34_14 : Rec → (Option Addr) → Nat → Nat → (Option Addr) → Nat → Nat → Int → AMem → Res) (hP34_14 : P34_14 = fun (L : Rec) (x0 : Option Addr) (x0n : Nat) (x0c : Nat) (x1 : Option Addr) (x1n : Nat) (x1c : Nat) (x5 : Int) (M : AMem) => L.loop b34_14 (k34_14 L) (s34_14 x0 x0n x0c x1 x1n x1c x5 M) M) (x0 : Option Addr) (x0n : Nat) (x0c : Nat) (x1 : Option Addr) (x1n : Nat) (x1c : Nat) (M : AMem) : enterF L a34 [.slice x0 x0n x0c, .slice x1 x1n x1c] M =
  (if ((Int.ofNat x0n) != (Int.ofNat x1n)) = true
    then some (.bool false, M)
    else P34_14 L x0 x0n x0c x1 x1n x1c 0 M) := by
  subst hP34_14; exact Eq.mp (by kernel_rfl) (GE34 L b34_14 c34_31 x0 x0n x0c x1 x1n x1c M)
theorem E34 (L : Rec) (x0 : Option Addr) (x0n : Nat) (x0c : Nat) (x1 : Option Addr) (x1n : Nat) (x1c : Nat) (M : AMem) : enterF L a34 [.slice x0 x0n x0c, .slice x1 x1n x1c] M =
  (if ((Int.ofNat x0n) != (Int.ofNat x1n)) = true
    then some (.bool false, M)
    else P34_14 L x0 x0n x0c x1 x1n x1c 0 M) := QE34 L P34_14 (Classical.choose_spec XP34_14) x0 x0n x0c x1 x1n x1c M
/-! #### skylightlaw30.awake -/
theorem GE23 (L : Rec) : enterF L ⟨29, [.tmp 0], .seq (.ops o23_1) (.seq (.ops o23_3) (.seq (.ops o23_5) (.ret)))⟩ [] [] =
  (Option.bind (L.call 24 [.int .i64 1] ([] : AMem)) fun r_1 =>
    (Option.bind (ptrOf? (some r_1.1)) fun p_2 =>
    (Option.bind (L.call 28 [.pointer p_2, .int .i64 0, .int .u64 0, .int .u64 1] r_1.2) fun r_3 =>
    (Option.bind (boolOf? (some r_3.1)) fun q_4 =>
    (if q_4 = true
    then (Option.bind (L.call 28 [.pointer p_2, .int .i64 0, .int .u64 0, .int .u64 1] r_3.2) fun r_5 =>
      (Option.bind (boolOf? (some r_5.1)) fun q_6 =>
      (if (!q_6) = true
      then (Option.bind (L.call 32 [.pointer p_2] r_5.2) fun r_7 =>
        (Option.bind (intOf? .i64 (some r_7.1)) fun x_8 =>
        (if (x_8 == 1) = true
        then (Option.bind (L.call 30 [.pointer p_2] r_7.2) fun r_9 =>
          (Option.bind (intOf? .i64 (some r_9.1)) fun x_10 =>
          (if (x_10 == 2) = true
          then (Option.bind (L.call 31 [.pointer p_2] r_9.2) fun r_11 =>
            (Option.bind (intOf? .i64 (some r_11.1)) fun x_12 =>
            (if (x_12 == 1) = true
            then (Option.bind (L.call 24 [.int .i64 (-1)] r_11.2) fun r_13 =>
              (Option.bind (ptrOf? (some r_13.1)) fun p_14 =>
              some (.bool (Option.isNone p_14), r_13.2)))
            else some (.bool false, r_11.2))))
          else some (.bool false, r_9.2))))
        else some (.bool false, r_7.2))))
      else some (.bool false, r_5.2))))
    else some (.bool false, r_3.2)))))) := by kernel_rfl
theorem E23 (L : Rec) : enterF L a23 [] [] =
  (Option.bind (L.call 24 [.int .i64 1] ([] : AMem)) fun r_1 =>
    (Option.bind (ptrOf? (some r_1.1)) fun p_2 =>
    (Option.bind (L.call 28 [.pointer p_2, .int .i64 0, .int .u64 0, .int .u64 1] r_1.2) fun r_3 =>
    (Option.bind (boolOf? (some r_3.1)) fun q_4 =>
    (if q_4 = true
    then (Option.bind (L.call 28 [.pointer p_2, .int .i64 0, .int .u64 0, .int .u64 1] r_3.2) fun r_5 =>
      (Option.bind (boolOf? (some r_5.1)) fun q_6 =>
      (if (!q_6) = true
      then (Option.bind (L.call 32 [.pointer p_2] r_5.2) fun r_7 =>
        (Option.bind (intOf? .i64 (some r_7.1)) fun x_8 =>
        (if (x_8 == 1) = true
        then (Option.bind (L.call 30 [.pointer p_2] r_7.2) fun r_9 =>
          (Option.bind (intOf? .i64 (some r_9.1)) fun x_10 =>
          (if (x_10 == 2) = true
          then (Option.bind (L.call 31 [.pointer p_2] r_9.2) fun r_11 =>
            (Option.bind (intOf? .i64 (some r_11.1)) fun x_12 =>
            (if (x_12 == 1) = true
            then (Option.bind (L.call 24 [.int .i64 (-1)] r_11.2) fun r_13 =>
              (Option.bind (ptrOf? (some r_13.1)) fun p_14 =>
              some (.bool (Option.isNone p_14), r_13.2)))
            else some (.bool false, r_11.2))))
          else some (.bool false, r_9.2))))
        else some (.bool false, r_7.2))))
      else some (.bool false, r_5.2))))
    else some (.bool false, r_3.2)))))) := Eq.mp (by kernel_rfl) (GE23 L  )
/-! #### skylightlaw30.CellPlays -/
noncomputable def k5_34 (L : Rec) : KT := blockK 0 (seqK (code L (.clear [0, 1, 4, 5, 6, 7, 8, 11, 12, 13, 14, 15, 16, 17, 18, 19, 20, 21, 22, 23, 24, 25, 26, 27, 28, 29, 30, 31, 32, 33, 34, 35, 36, 37, 38, 39, 40, 41, 42, 43, 44, 45, 46, 47, 48, 49, 50, 51, 52, 53, 54, 55, 56, 57, 58, 59, 60, 61, 62, 63, 64, 65, 66, 67, 68, 69, 70, 71, 72, 73, 74, 75, 76, 77, 78, 79, 80, 81, 82, 83, 84, 85, 86, 87, 88, 89, 90, 91, 92, 93, 94, 95, 96, 97, 98, 99, 100, 101, 102, 103, 104, 105, 106, 107, 108, 109, 110, 111, 112, 113, 114, 115, 116, 117, 118, 119, 120, 121, 122, 123, 124, 125, 126, 127, 128, 129, 130, 131, 132, 133, 134, 135, 136, 137, 138, 139, 140, 141, 142, 143, 144, 145, 146, 147, 148, 149, 150, 151, 152, 153, 154, 155, 156, 157, 158, 159, 160, 161, 162, 163, 164, 165, 166, 167, 168, 169, 170, 171, 172, 173, 174, 175, 176, 177, 178, 179, 180, 181, 182, 183, 184, 185, 186, 187, 188, 189, 190, 191, 192, 193, 194, 195, 196, 197, 198] c5_79) (retK [.tmp 8])) (retK [.tmp 8]))
def s5_34 (x1 : Option Addr) (x1n : Nat) (x1c : Nat) (x2 : Int) (x3 : Int) (x9 : Option Addr) (x10 : Nat) (x12 : Int) (M : AMem) : List Value := [junk, .slice x1 x1n x1c, .int .i64 x2, .int .i64 x3, junk, junk, junk, junk, junk, .pointer x9, .pointer (some ⟨x10, 0, none⟩), junk, .int .i64 x12, junk, junk, junk, junk, junk, junk, junk, junk, junk, junk, junk, junk, junk, junk, junk, junk, junk, junk, junk, junk, junk, junk, junk, junk, junk, junk, junk, junk, junk, junk, junk, junk, junk, junk, junk, junk, junk, junk, junk, junk, junk, junk, junk, junk, junk, junk, junk, junk, junk, junk, junk, junk, junk, junk, junk, junk, junk, junk, junk, junk, junk, junk, junk, junk, junk, junk, junk, junk, junk, junk, junk, junk, junk, junk, junk, junk, junk, junk, junk, junk, junk, junk, junk, junk, junk, junk, junk, junk, junk, junk, junk, junk, junk, junk, junk, junk, junk, junk, junk, junk, junk, junk, junk, junk, junk, junk, junk, junk, junk, junk, junk, junk, junk, junk, junk, junk, junk, junk, junk, junk, junk, junk, junk, junk, junk, junk, junk, junk, junk, junk, junk, junk, junk, junk, junk, junk, junk, junk, junk, junk, junk, junk, junk, junk, junk, junk, junk, junk, junk, junk, junk, junk, junk, junk, junk, junk, junk, junk, junk, junk, junk, junk, junk, junk, junk, junk, junk, junk, junk, junk, junk, junk, junk, junk, junk, junk, junk, junk, junk, junk, junk, junk, junk, junk, junk, junk]
theorem XP5_34 : ∃ P : Rec → (Option Addr) → Nat → Nat → Int → Int → (Option Addr) → Nat → Int → AMem → Res, P = fun (L : Rec) (x1 : Option Addr) (x1n : Nat) (x1c : Nat) (x2 : Int) (x3 : Int) (x9 : Option Addr) (x10 : Nat) (x12 : Int) (M : AMem) => L.loop b5_34 (k5_34 L) (s5_34 x1 x1n x1c x2 x3 x9 x10 x12 M) M := ⟨_, rfl⟩
noncomputable def P5_34 : Rec → (Option Addr) → Nat → Nat → Int → Int → (Option Addr) → Nat → Int → AMem → Res := Classical.choose XP5_34
noncomputable def k5_63 (L : Rec) : KT := blockK 1 (seqK (code L (.clear [0, 4, 5, 6, 7, 8, 11, 13, 14, 15, 16, 17, 18, 19, 20, 21, 22, 23, 24, 25, 26, 27, 28, 29, 30, 31, 32, 33, 34, 35, 36, 37, 38, 39, 40, 41, 42, 43, 44, 45, 46, 47, 48, 49, 50, 51, 52, 53, 54, 55, 56, 57, 58, 59, 60, 61, 62, 63, 64, 65, 66, 67, 68, 69, 70, 71, 72, 73, 74, 75, 76, 77, 78, 79, 80, 81, 82, 83, 84, 85, 86, 87, 88, 89, 90, 91, 92, 93, 94, 95, 96, 97, 98, 99, 100, 101, 102, 103, 104, 105, 106, 107, 108, 109, 110, 111, 112, 113, 114, 115, 116, 117, 118, 119, 120, 121, 122, 123, 124, 125, 126, 127, 128, 129, 130, 131, 132, 133, 134, 135, 136, 137, 138, 139, 140, 141, 142, 143, 144, 145, 146, 147, 148, 149, 150, 151, 152, 153, 154, 155, 156, 157, 158, 159, 160, 161, 162, 163, 164, 165, 166, 167, 168, 169, 170, 171, 172, 173, 174, 175, 176, 177, 178, 179, 180, 181, 182, 183, 184, 185, 186, 187, 188, 189, 190, 191, 192, 193, 194, 195, 196, 197, 198] c5_78) (postK [0, 4, 5, 6, 7, 8, 11, 13, 14, 15, 16, 17, 18, 19, 20, 21, 22, 23, 24, 25, 26, 27, 28, 29, 30, 31, 32, 33, 34, 35, 36, 37, 38, 39, 40, 41, 42, 43, 44, 45, 46, 47, 48, 49, 50, 51, 52, 53, 54, 55, 56, 57, 58, 59, 60, 61, 62, 63, 64, 65, 66, 67, 68, 69, 70, 71, 72, 73, 74, 75, 76, 77, 78, 79, 80, 81, 82, 83, 84, 85, 86, 87, 88, 89, 90, 91, 92, 93, 94, 95, 96, 97, 98, 99, 100, 101, 102, 103, 104, 105, 106, 107, 108, 109, 110, 111, 112, 113, 114, 115, 116, 117, 118, 119, 120, 121, 122, 123, 124, 125, 126, 127, 128, 129, 130, 131, 132, 133, 134, 135, 136, 137, 138, 139, 140, 141, 142, 143, 144, 145, 146, 147, 148, 149, 150, 151, 152, 153, 154, 155, 156, 157, 158, 159, 160, 161, 162, 163, 164, 165, 166, 167, 168, 169, 170, 171, 172, 173, 174, 175, 176, 177, 178, 179, 180, 181, 182, 183, 184, 185, 186, 187, 188, 189, 190, 191, 192, 193, 194, 195, 196, 197, 198] (loopK L b5_34 (blockK 0 (seqK (code L (.clear [0, 1, 4, 5, 6, 7, 8, 11, 12, 13, 14, 15, 16, 17, 18, 19, 20, 21, 22, 23, 24, 25, 26, 27, 28, 29, 30, 31, 32, 33, 34, 35, 36, 37, 38, 39, 40, 41, 42, 43, 44, 45, 46, 47, 48, 49, 50, 51, 52, 53, 54, 55, 56, 57, 58, 59, 60, 61, 62, 63, 64, 65, 66, 67, 68, 69, 70, 71, 72, 73, 74, 75, 76, 77, 78, 79, 80, 81, 82, 83, 84, 85, 86, 87, 88, 89, 90, 91, 92, 93, 94, 95, 96, 97, 98, 99, 100, 101, 102, 103, 104, 105, 106, 107, 108, 109, 110, 111, 112, 113, 114, 115, 116, 117, 118, 119, 120, 121, 122, 123, 124, 125, 126, 127, 128, 129, 130, 131, 132, 133, 134, 135, 136, 137, 138, 139, 140, 141, 142, 143, 144, 145, 146, 147, 148, 149, 150, 151, 152, 153, 154, 155, 156, 157, 158, 159, 160, 161, 162, 163, 164, 165, 166, 167, 168, 169, 170, 171, 172, 173, 174, 175, 176, 177, 178, 179, 180, 181, 182, 183, 184, 185, 186, 187, 188, 189, 190, 191, 192, 193, 194, 195, 196, 197, 198] c5_79) (retK [.tmp 8])) (retK [.tmp 8])))))) (postK [0, 4, 5, 6, 7, 8, 11, 13, 14, 15, 16, 17, 18, 19, 20, 21, 22, 23, 24, 25, 26, 27, 28, 29, 30, 31, 32, 33, 34, 35, 36, 37, 38, 39, 40, 41, 42, 43, 44, 45, 46, 47, 48, 49, 50, 51, 52, 53, 54, 55, 56, 57, 58, 59, 60, 61, 62, 63, 64, 65, 66, 67, 68, 69, 70, 71, 72, 73, 74, 75, 76, 77, 78, 79, 80, 81, 82, 83, 84, 85, 86, 87, 88, 89, 90, 91, 92, 93, 94, 95, 96, 97, 98, 99, 100, 101, 102, 103, 104, 105, 106, 107, 108, 109, 110, 111, 112, 113, 114, 115, 116, 117, 118, 119, 120, 121, 122, 123, 124, 125, 126, 127, 128, 129, 130, 131, 132, 133, 134, 135, 136, 137, 138, 139, 140, 141, 142, 143, 144, 145, 146, 147, 148, 149, 150, 151, 152, 153, 154, 155, 156, 157, 158, 159, 160, 161, 162, 163, 164, 165, 166, 167, 168, 169, 170, 171, 172, 173, 174, 175, 176, 177, 178, 179, 180, 181, 182, 183, 184, 185, 186, 187, 188, 189, 190, 191, 192, 193, 194, 195, 196, 197, 198] (loopK L b5_34 (blockK 0 (seqK (code L (.clear [0, 1, 4, 5, 6, 7, 8, 11, 12, 13, 14, 15, 16, 17, 18, 19, 20, 21, 22, 23, 24, 25, 26, 27, 28, 29, 30, 31, 32, 33, 34, 35, 36, 37, 38, 39, 40, 41, 42, 43, 44, 45, 46, 47, 48, 49, 50, 51, 52, 53, 54, 55, 56, 57, 58, 59, 60, 61, 62, 63, 64, 65, 66, 67, 68, 69, 70, 71, 72, 73, 74, 75, 76, 77, 78, 79, 80, 81, 82, 83, 84, 85, 86, 87, 88, 89, 90, 91, 92, 93, 94, 95, 96, 97, 98, 99, 100, 101, 102, 103, 104, 105, 106, 107, 108, 109, 110, 111, 112, 113, 114, 115, 116, 117, 118, 119, 120, 121, 122, 123, 124, 125, 126, 127, 128, 129, 130, 131, 132, 133, 134, 135, 136, 137, 138, 139, 140, 141, 142, 143, 144, 145, 146, 147, 148, 149, 150, 151, 152, 153, 154, 155, 156, 157, 158, 159, 160, 161, 162, 163, 164, 165, 166, 167, 168, 169, 170, 171, 172, 173, 174, 175, 176, 177, 178, 179, 180, 181, 182, 183, 184, 185, 186, 187, 188, 189, 190, 191, 192, 193, 194, 195, 196, 197, 198] c5_79) (retK [.tmp 8])) (retK [.tmp 8]))))))
def s5_63 (x1 : Option Addr) (x1n : Nat) (x1c : Nat) (x2 : Int) (x3 : Int) (x9 : Option Addr) (x10 : Nat) (x12 : Int) (x13 : Nat) (M : AMem) : List Value := [junk, .slice x1 x1n x1c, .int .i64 x2, .int .i64 x3, junk, junk, junk, junk, junk, .pointer x9, .pointer (some ⟨x10, 0, none⟩), junk, .int .i64 x12, .pointer (some ⟨x13, 0, none⟩), junk, junk, junk, junk, junk, junk, junk, junk, junk, junk, junk, junk, junk, junk, junk, junk, junk, junk, junk, junk, junk, junk, junk, junk, junk, junk, junk, junk, junk, junk, junk, junk, junk, junk, junk, junk, junk, junk, junk, junk, junk, junk, junk, junk, junk, junk, junk, junk, junk, junk, junk, junk, junk, junk, junk, junk, junk, junk, junk, junk, junk, junk, junk, junk, junk, junk, junk, junk, junk, junk, junk, junk, junk, junk, junk, junk, junk, junk, junk, junk, junk, junk, junk, junk, junk, junk, junk, junk, junk, junk, junk, junk, junk, junk, junk, junk, junk, junk, junk, junk, junk, junk, junk, junk, junk, junk, junk, junk, junk, junk, junk, junk, junk, junk, junk, junk, junk, junk, junk, junk, junk, junk, junk, junk, junk, junk, junk, junk, junk, junk, junk, junk, junk, junk, junk, junk, junk, junk, junk, junk, junk, junk, junk, junk, junk, junk, junk, junk, junk, junk, junk, junk, junk, junk, junk, junk, junk, junk, junk, junk, junk, junk, junk, junk, junk, junk, junk, junk, junk, junk, junk, junk, junk, junk, junk, junk, junk, junk, junk, junk, junk, junk, junk, junk, junk]
theorem XP5_63 : ∃ P : Rec → (Option Addr) → Nat → Nat → Int → Int → (Option Addr) → Nat → Int → Nat → AMem → Res, P = fun (L : Rec) (x1 : Option Addr) (x1n : Nat) (x1c : Nat) (x2 : Int) (x3 : Int) (x9 : Option Addr) (x10 : Nat) (x12 : Int) (x13 : Nat) (M : AMem) => code L c5_63 (k5_63 L) (s5_63 x1 x1n x1c x2 x3 x9 x10 x12 x13 M) M := ⟨_, rfl⟩
noncomputable def P5_63 : Rec → (Option Addr) → Nat → Nat → Int → Int → (Option Addr) → Nat → Int → Nat → AMem → Res := Classical.choose XP5_63
noncomputable def k5_79 (L : Rec) : KT := retK [.tmp 8]
def s5_79 (x2 : Int) (x3 : Int) (x9 : Option Addr) (x10 : Nat) (M : AMem) : List Value := [junk, junk, .int .i64 x2, .int .i64 x3, junk, junk, junk, junk, junk, .pointer x9, .pointer (some ⟨x10, 0, none⟩), junk, junk, junk, junk, junk, junk, junk, junk, junk, junk, junk, junk, junk, junk, junk, junk, junk, junk, junk, junk, junk, junk, junk, junk, junk, junk, junk, junk, junk, junk, junk, junk, junk, junk, junk, junk, junk, junk, junk, junk, junk, junk, junk, junk, junk, junk, junk, junk, junk, junk, junk, junk, junk, junk, junk, junk, junk, junk, junk, junk, junk, junk, junk, junk, junk, junk, junk, junk, junk, junk, junk, junk, junk, junk, junk, junk, junk, junk, junk, junk, junk, junk, junk, junk, junk, junk, junk, junk, junk, junk, junk, junk, junk, junk, junk, junk, junk, junk, junk, junk, junk, junk, junk, junk, junk, junk, junk, junk, junk, junk, junk, junk, junk, junk, junk, junk, junk, junk, junk, junk, junk, junk, junk, junk, junk, junk, junk, junk, junk, junk, junk, junk, junk, junk, junk, junk, junk, junk, junk, junk, junk, junk, junk, junk, junk, junk, junk, junk, junk, junk, junk, junk, junk, junk, junk, junk, junk, junk, junk, junk, junk, junk, junk, junk, junk, junk, junk, junk, junk, junk, junk, junk, junk, junk, junk, junk, junk, junk, junk, junk, junk, junk, junk, junk, junk, junk, junk, junk]
theorem XP5_79 : ∃ P : Rec → Int → Int → (Option Addr) → Nat → AMem → Res, P = fun (L : Rec) (x2 : Int) (x3 : Int) (x9 : Option Addr) (x10 : Nat) (M : AMem) => code L c5_79 (k5_79 L) (s5_79 x2 x3 x9 x10 M) M := ⟨_, rfl⟩
noncomputable def P5_79 : Rec → Int → Int → (Option Addr) → Nat → AMem → Res := Classical.choose XP5_79
noncomputable def k5_78 (L : Rec) : KT := postK [0, 4, 5, 6, 7, 8, 11, 13, 14, 15, 16, 17, 18, 19, 20, 21, 22, 23, 24, 25, 26, 27, 28, 29, 30, 31, 32, 33, 34, 35, 36, 37, 38, 39, 40, 41, 42, 43, 44, 45, 46, 47, 48, 49, 50, 51, 52, 53, 54, 55, 56, 57, 58, 59, 60, 61, 62, 63, 64, 65, 66, 67, 68, 69, 70, 71, 72, 73, 74, 75, 76, 77, 78, 79, 80, 81, 82, 83, 84, 85, 86, 87, 88, 89, 90, 91, 92, 93, 94, 95, 96, 97, 98, 99, 100, 101, 102, 103, 104, 105, 106, 107, 108, 109, 110, 111, 112, 113, 114, 115, 116, 117, 118, 119, 120, 121, 122, 123, 124, 125, 126, 127, 128, 129, 130, 131, 132, 133, 134, 135, 136, 137, 138, 139, 140, 141, 142, 143, 144, 145, 146, 147, 148, 149, 150, 151, 152, 153, 154, 155, 156, 157, 158, 159, 160, 161, 162, 163, 164, 165, 166, 167, 168, 169, 170, 171, 172, 173, 174, 175, 176, 177, 178, 179, 180, 181, 182, 183, 184, 185, 186, 187, 188, 189, 190, 191, 192, 193, 194, 195, 196, 197, 198] (loopK L b5_34 (blockK 0 (seqK (code L (.clear [0, 1, 4, 5, 6, 7, 8, 11, 12, 13, 14, 15, 16, 17, 18, 19, 20, 21, 22, 23, 24, 25, 26, 27, 28, 29, 30, 31, 32, 33, 34, 35, 36, 37, 38, 39, 40, 41, 42, 43, 44, 45, 46, 47, 48, 49, 50, 51, 52, 53, 54, 55, 56, 57, 58, 59, 60, 61, 62, 63, 64, 65, 66, 67, 68, 69, 70, 71, 72, 73, 74, 75, 76, 77, 78, 79, 80, 81, 82, 83, 84, 85, 86, 87, 88, 89, 90, 91, 92, 93, 94, 95, 96, 97, 98, 99, 100, 101, 102, 103, 104, 105, 106, 107, 108, 109, 110, 111, 112, 113, 114, 115, 116, 117, 118, 119, 120, 121, 122, 123, 124, 125, 126, 127, 128, 129, 130, 131, 132, 133, 134, 135, 136, 137, 138, 139, 140, 141, 142, 143, 144, 145, 146, 147, 148, 149, 150, 151, 152, 153, 154, 155, 156, 157, 158, 159, 160, 161, 162, 163, 164, 165, 166, 167, 168, 169, 170, 171, 172, 173, 174, 175, 176, 177, 178, 179, 180, 181, 182, 183, 184, 185, 186, 187, 188, 189, 190, 191, 192, 193, 194, 195, 196, 197, 198] c5_79) (retK [.tmp 8])) (retK [.tmp 8]))))
def s5_78 (x1 : Option Addr) (x1n : Nat) (x1c : Nat) (x2 : Int) (x3 : Int) (x9 : Option Addr) (x10 : Nat) (x12 : Int) (M : AMem) : List Value := [junk, .slice x1 x1n x1c, .int .i64 x2, .int .i64 x3, junk, junk, junk, junk, junk, .pointer x9, .pointer (some ⟨x10, 0, none⟩), junk, .int .i64 x12, junk, junk, junk, junk, junk, junk, junk, junk, junk, junk, junk, junk, junk, junk, junk, junk, junk, junk, junk, junk, junk, junk, junk, junk, junk, junk, junk, junk, junk, junk, junk, junk, junk, junk, junk, junk, junk, junk, junk, junk, junk, junk, junk, junk, junk, junk, junk, junk, junk, junk, junk, junk, junk, junk, junk, junk, junk, junk, junk, junk, junk, junk, junk, junk, junk, junk, junk, junk, junk, junk, junk, junk, junk, junk, junk, junk, junk, junk, junk, junk, junk, junk, junk, junk, junk, junk, junk, junk, junk, junk, junk, junk, junk, junk, junk, junk, junk, junk, junk, junk, junk, junk, junk, junk, junk, junk, junk, junk, junk, junk, junk, junk, junk, junk, junk, junk, junk, junk, junk, junk, junk, junk, junk, junk, junk, junk, junk, junk, junk, junk, junk, junk, junk, junk, junk, junk, junk, junk, junk, junk, junk, junk, junk, junk, junk, junk, junk, junk, junk, junk, junk, junk, junk, junk, junk, junk, junk, junk, junk, junk, junk, junk, junk, junk, junk, junk, junk, junk, junk, junk, junk, junk, junk, junk, junk, junk, junk, junk, junk, junk, junk, junk, junk, junk, junk, junk]
theorem XP5_78 : ∃ P : Rec → (Option Addr) → Nat → Nat → Int → Int → (Option Addr) → Nat → Int → AMem → Res, P = fun (L : Rec) (x1 : Option Addr) (x1n : Nat) (x1c : Nat) (x2 : Int) (x3 : Int) (x9 : Option Addr) (x10 : Nat) (x12 : Int) (M : AMem) => code L c5_78 (k5_78 L) (s5_78 x1 x1n x1c x2 x3 x9 x10 x12 M) M := ⟨_, rfl⟩
noncomputable def P5_78 : Rec → (Option Addr) → Nat → Nat → Int → Int → (Option Addr) → Nat → Int → AMem → Res := Classical.choose XP5_78
theorem G5_34 (L : Rec) (b5_34 c5_63 c5_78 c5_79 : ACode) (x1 : Option Addr) (x1n : Nat) (x1c : Nat) (x2 : Int) (x3 : Int) (x9 : Option Addr) (x10 : Nat) (x12 : Int) (M : AMem) : code L (.post (.seq (.seq (.ops o5_37) (.cond (.tmp 53) (.skip) (.exit 0))) (.seq (.block 1 (.seq (.ops o5_44) (.seq (.ops o5_46) (.seq (.ops o5_48) (.seq (.seq (.ops o5_51) (.cond (.tmp 80) (.seq (.ops o5_54) (.ret)) (.skip))) (.seq (.seq (.ops o5_59) (.cond (.tmp 83) (.ops o5_61) (.skip))) (.clear [0, 4, 5, 6, 7, 8, 11, 14, 15, 16, 17, 18, 19, 20, 21, 22, 23, 24, 25, 26, 27, 28, 29, 30, 31, 32, 33, 34, 35, 36, 37, 38, 39, 40, 41, 42, 43, 44, 45, 46, 47, 48, 49, 50, 51, 52, 53, 54, 55, 56, 57, 58, 59, 60, 61, 62, 63, 64, 65, 66, 67, 68, 69, 70, 71, 72, 73, 74, 75, 76, 77, 78, 79, 80, 81, 82, 83, 84, 85, 86, 87, 88, 89, 90, 91, 92, 93, 94, 95, 96, 97, 98, 99, 100, 101, 102, 103, 104, 105, 106, 107, 108, 109, 110, 111, 112, 113, 114, 115, 116, 117, 118, 119, 120, 121, 122, 123, 124, 125, 126, 127, 128, 129, 130, 131, 132, 133, 134, 135, 136, 137, 138, 139, 140, 141, 142, 143, 144, 145, 146, 147, 148, 149, 150, 151, 152, 153, 154, 155, 156, 157, 158, 159, 160, 161, 162, 163, 164, 165, 166, 167, 168, 169, 170, 171, 172, 173, 174, 175, 176, 177, 178, 179, 180, 181, 182, 183, 184, 185, 186, 187, 188, 189, 190, 191, 192, 193, 194, 195, 196, 197, 198] c5_63))))))) (.clear [0, 4, 5, 6, 7, 8, 11, 13, 14, 15, 16, 17, 18, 19, 20, 21, 22, 23, 24, 25, 26, 27, 28, 29, 30, 31, 32, 33, 34, 35, 36, 37, 38, 39, 40, 41, 42, 43, 44, 45, 46, 47, 48, 49, 50, 51, 52, 53, 54, 55, 56, 57, 58, 59, 60, 61, 62, 63, 64, 65, 66, 67, 68, 69, 70, 71, 72, 73, 74, 75, 76, 77, 78, 79, 80, 81, 82, 83, 84, 85, 86, 87, 88, 89, 90, 91, 92, 93, 94, 95, 96, 97, 98, 99, 100, 101, 102, 103, 104, 105, 106, 107, 108, 109, 110, 111, 112, 113, 114, 115, 116, 117, 118, 119, 120, 121, 122, 123, 124, 125, 126, 127, 128, 129, 130, 131, 132, 133, 134, 135, 136, 137, 138, 139, 140, 141, 142, 143, 144, 145, 146, 147, 148, 149, 150, 151, 152, 153, 154, 155, 156, 157, 158, 159, 160, 161, 162, 163, 164, 165, 166, 167, 168, 169, 170, 171, 172, 173, 174, 175, 176, 177, 178, 179, 180, 181, 182, 183, 184, 185, 186, 187, 188, 189, 190, 191, 192, 193, 194, 195, 196, 197, 198] c5_78))) [0, 4, 5, 6, 7, 8, 11, 13, 14, 15, 16, 17, 18, 19, 20, 21, 22, 23, 24, 25, 26, 27, 28, 29, 30, 31, 32, 33, 34, 35, 36, 37, 38, 39, 40, 41, 42, 43, 44, 45, 46, 47, 48, 49, 50, 51, 52, 53, 54, 55, 56, 57, 58, 59, 60, 61, 62, 63, 64, 65, 66, 67, 68, 69, 70, 71, 72, 73, 74, 75, 76, 77, 78, 79, 80, 81, 82, 83, 84, 85, 86, 87, 88, 89, 90, 91, 92, 93, 94, 95, 96, 97, 98, 99, 100, 101, 102, 103, 104, 105, 106, 107, 108, 109, 110, 111, 112, 113, 114, 115, 116, 117, 118, 119, 120, 121, 122, 123, 124, 125, 126, 127, 128, 129, 130, 131, 132, 133, 134, 135, 136, 137, 138, 139, 140, 141, 142, 143, 144, 145, 146, 147, 148, 149, 150, 151, 152, 153, 154, 155, 156, 157, 158, 159, 160, 161, 162, 163, 164, 165, 166, 167, 168, 169, 170, 171, 172, 173, 174, 175, 176, 177, 178, 179, 180, 181, 182, 183, 184, 185, 186, 187, 188, 189, 190, 191, 192, 193, 194, 195, 196, 197, 198]) (loopK L b5_34 (blockK 0 (seqK (code L (.clear [0, 1, 4, 5, 6, 7, 8, 11, 12, 13, 14, 15, 16, 17, 18, 19, 20, 21, 22, 23, 24, 25, 26, 27, 28, 29, 30, 31, 32, 33, 34, 35, 36, 37, 38, 39, 40, 41, 42, 43, 44, 45, 46, 47, 48, 49, 50, 51, 52, 53, 54, 55, 56, 57, 58, 59, 60, 61, 62, 63, 64, 65, 66, 67, 68, 69, 70, 71, 72, 73, 74, 75, 76, 77, 78, 79, 80, 81, 82, 83, 84, 85, 86, 87, 88, 89, 90, 91, 92, 93, 94, 95, 96, 97, 98, 99, 100, 101, 102, 103, 104, 105, 106, 107, 108, 109, 110, 111, 112, 113, 114, 115, 116, 117, 118, 119, 120, 121, 122, 123, 124, 125, 126, 127, 128, 129, 130, 131, 132, 133, 134, 135, 136, 137, 138, 139, 140, 141, 142, 143, 144, 145, 146, 147, 148, 149, 150, 151, 152, 153, 154, 155, 156, 157, 158, 159, 160, 161, 162, 163, 164, 165, 166, 167, 168, 169, 170, 171, 172, 173, 174, 175, 176, 177, 178, 179, 180, 181, 182, 183, 184, 185, 186, 187, 188, 189, 190, 191, 192, 193, 194, 195, 196, 197, 198] c5_79) (retK [.tmp 8])) (retK [.tmp 8])))) [junk, .slice x1 x1n x1c, .int .i64 x2, .int .i64 x3, junk, junk, junk, junk, junk, .pointer x9, .pointer (some ⟨x10, 0, none⟩), junk, .int .i64 x12, junk, junk, junk, junk, junk, junk, junk, junk, junk, junk, junk, junk, junk, junk, junk, junk, junk, junk, junk, junk, junk, junk, junk, junk, junk, junk, junk, junk, junk, junk, junk, junk, junk, junk, junk, junk, junk, junk, junk, junk, junk, junk, junk, junk, junk, junk, junk, junk, junk, junk, junk, junk, junk, junk, junk, junk, junk, junk, junk, junk, junk, junk, junk, junk, junk, junk, junk, junk, junk, junk, junk, junk, junk, junk, junk, junk, junk, junk, junk, junk, junk, junk, junk, junk, junk, junk, junk, junk, junk, junk, junk, junk, junk, junk, junk, junk, junk, junk, junk, junk, junk, junk, junk, junk, junk, junk, junk, junk, junk, junk, junk, junk, junk, junk, junk, junk, junk, junk, junk, junk, junk, junk, junk, junk, junk, junk, junk, junk, junk, junk, junk, junk, junk, junk, junk, junk, junk, junk, junk, junk, junk, junk, junk, junk, junk, junk, junk, junk, junk, junk, junk, junk, junk, junk, junk, junk, junk, junk, junk, junk, junk, junk, junk, junk, junk, junk, junk, junk, junk, junk, junk, junk, junk, junk, junk, junk, junk, junk, junk, junk, junk, junk, junk, junk, junk, junk] M =
  (if (decide (x12 < (Int.ofNat x1n))) = true
    then (match x1 with
      | some a_1 => (if 0 ≤ x12 ∧ x12 < (Int.ofNat x1n)
        then (Option.bind (intOf? .i64 (AMem.ld M a_1.block (a_1.off + ((Int.toNat x12) * 4)))) fun x_2 =>
          (Option.bind (intOf? .i64 (AMem.ld M a_1.block ((a_1.off + ((Int.toNat x12) * 4)) + 1))) fun x_3 =>
          (Option.bind (intOf? .u64 (AMem.ld M a_1.block ((a_1.off + ((Int.toNat x12) * 4)) + 2))) fun x_4 =>
          (Option.bind (intOf? .u64 (AMem.ld M a_1.block ((a_1.off + ((Int.toNat x12) * 4)) + 3))) fun x_5 =>
          (Option.bind (AMem.wr (M ++ [AObj.cells [.int .i64 0, .int .i64 0, .int .u64 0, .int .u64 0] ⟨false, 0⟩]) (List.length M) 0 [.int .i64 x_2, .int .i64 x_3, .int .u64 x_4, .int .u64 x_5]) fun M_6 =>
          (Option.bind (intOf? .i64 (AMem.ld M_6 (List.length M) 1)) fun x_7 =>
          (Option.bind (L.call 26 [.pointer (some ⟨x10, 0, none⟩), .int .i64 x_7] M_6) fun r_8 =>
          (Option.bind (tupOf? 2 r_8.1) fun cs_9 =>
          (Option.bind (cs_9[0]?) fun u_10 =>
          (Option.bind (intOf? .u64 (some u_10)) fun x_11 =>
          (Option.bind (cs_9[1]?) fun u_12 =>
          (Option.bind (boolOf? (some u_12)) fun q_13 =>
          (Option.bind (intOf? .i64 (AMem.ld r_8.2 (List.length M) 1)) fun x_14 =>
          (Option.bind (L.call 27 [.pointer x9, .int .i64 x_14] r_8.2) fun r_15 =>
          (Option.bind (tupOf? 2 r_15.1) fun cs_16 =>
          (Option.bind (cs_16[0]?) fun u_17 =>
          (Option.bind (intOf? .u64 (some u_17)) fun x_18 =>
          (Option.bind (cs_16[1]?) fun u_19 =>
          (Option.bind (boolOf? (some u_19)) fun q_20 =>
          (if (x_11 != x_18) = true
          then some (.bool false, r_15.2)
          else (if (!(q_13 == q_20)) = true
            then some (.bool false, r_15.2)
            else (Option.bind (intOf? .i64 (AMem.ld r_15.2 (List.length M) 0)) fun x_21 =>
              (if (x_21 == 2) = true
              then (Option.bind (AMem.wr r_15.2 (List.length M) 2 [.int .u64 x_11]) fun M_22 =>
                code L c5_63 (blockK 1 (seqK (code L (.clear [0, 4, 5, 6, 7, 8, 11, 13, 14, 15, 16, 17, 18, 19, 20, 21, 22, 23, 24, 25, 26, 27, 28, 29, 30, 31, 32, 33, 34, 35, 36, 37, 38, 39, 40, 41, 42, 43, 44, 45, 46, 47, 48, 49, 50, 51, 52, 53, 54, 55, 56, 57, 58, 59, 60, 61, 62, 63, 64, 65, 66, 67, 68, 69, 70, 71, 72, 73, 74, 75, 76, 77, 78, 79, 80, 81, 82, 83, 84, 85, 86, 87, 88, 89, 90, 91, 92, 93, 94, 95, 96, 97, 98, 99, 100, 101, 102, 103, 104, 105, 106, 107, 108, 109, 110, 111, 112, 113, 114, 115, 116, 117, 118, 119, 120, 121, 122, 123, 124, 125, 126, 127, 128, 129, 130, 131, 132, 133, 134, 135, 136, 137, 138, 139, 140, 141, 142, 143, 144, 145, 146, 147, 148, 149, 150, 151, 152, 153, 154, 155, 156, 157, 158, 159, 160, 161, 162, 163, 164, 165, 166, 167, 168, 169, 170, 171, 172, 173, 174, 175, 176, 177, 178, 179, 180, 181, 182, 183, 184, 185, 186, 187, 188, 189, 190, 191, 192, 193, 194, 195, 196, 197, 198] c5_78) (postK [0, 4, 5, 6, 7, 8, 11, 13, 14, 15, 16, 17, 18, 19, 20, 21, 22, 23, 24, 25, 26, 27, 28, 29, 30, 31, 32, 33, 34, 35, 36, 37, 38, 39, 40, 41, 42, 43, 44, 45, 46, 47, 48, 49, 50, 51, 52, 53, 54, 55, 56, 57, 58, 59, 60, 61, 62, 63, 64, 65, 66, 67, 68, 69, 70, 71, 72, 73, 74, 75, 76, 77, 78, 79, 80, 81, 82, 83, 84, 85, 86, 87, 88, 89, 90, 91, 92, 93, 94, 95, 96, 97, 98, 99, 100, 101, 102, 103, 104, 105, 106, 107, 108, 109, 110, 111, 112, 113, 114, 115, 116, 117, 118, 119, 120, 121, 122, 123, 124, 125, 126, 127, 128, 129, 130, 131, 132, 133, 134, 135, 136, 137, 138, 139, 140, 141, 142, 143, 144, 145, 146, 147, 148, 149, 150, 151, 152, 153, 154, 155, 156, 157, 158, 159, 160, 161, 162, 163, 164, 165, 166, 167, 168, 169, 170, 171, 172, 173, 174, 175, 176, 177, 178, 179, 180, 181, 182, 183, 184, 185, 186, 187, 188, 189, 190, 191, 192, 193, 194, 195, 196, 197, 198] (loopK L b5_34 (blockK 0 (seqK (code L (.clear [0, 1, 4, 5, 6, 7, 8, 11, 12, 13, 14, 15, 16, 17, 18, 19, 20, 21, 22, 23, 24, 25, 26, 27, 28, 29, 30, 31, 32, 33, 34, 35, 36, 37, 38, 39, 40, 41, 42, 43, 44, 45, 46, 47, 48, 49, 50, 51, 52, 53, 54, 55, 56, 57, 58, 59, 60, 61, 62, 63, 64, 65, 66, 67, 68, 69, 70, 71, 72, 73, 74, 75, 76, 77, 78, 79, 80, 81, 82, 83, 84, 85, 86, 87, 88, 89, 90, 91, 92, 93, 94, 95, 96, 97, 98, 99, 100, 101, 102, 103, 104, 105, 106, 107, 108, 109, 110, 111, 112, 113, 114, 115, 116, 117, 118, 119, 120, 121, 122, 123, 124, 125, 126, 127, 128, 129, 130, 131, 132, 133, 134, 135, 136, 137, 138, 139, 140, 141, 142, 143, 144, 145, 146, 147, 148, 149, 150, 151, 152, 153, 154, 155, 156, 157, 158, 159, 160, 161, 162, 163, 164, 165, 166, 167, 168, 169, 170, 171, 172, 173, 174, 175, 176, 177, 178, 179, 180, 181, 182, 183, 184, 185, 186, 187, 188, 189, 190, 191, 192, 193, 194, 195, 196, 197, 198] c5_79) (retK [.tmp 8])) (retK [.tmp 8])))))) (postK [0, 4, 5, 6, 7, 8, 11, 13, 14, 15, 16, 17, 18, 19, 20, 21, 22, 23, 24, 25, 26, 27, 28, 29, 30, 31, 32, 33, 34, 35, 36, 37, 38, 39, 40, 41, 42, 43, 44, 45, 46, 47, 48, 49, 50, 51, 52, 53, 54, 55, 56, 57, 58, 59, 60, 61, 62, 63, 64, 65, 66, 67, 68, 69, 70, 71, 72, 73, 74, 75, 76, 77, 78, 79, 80, 81, 82, 83, 84, 85, 86, 87, 88, 89, 90, 91, 92, 93, 94, 95, 96, 97, 98, 99, 100, 101, 102, 103, 104, 105, 106, 107, 108, 109, 110, 111, 112, 113, 114, 115, 116, 117, 118, 119, 120, 121, 122, 123, 124, 125, 126, 127, 128, 129, 130, 131, 132, 133, 134, 135, 136, 137, 138, 139, 140, 141, 142, 143, 144, 145, 146, 147, 148, 149, 150, 151, 152, 153, 154, 155, 156, 157, 158, 159, 160, 161, 162, 163, 164, 165, 166, 167, 168, 169, 170, 171, 172, 173, 174, 175, 176, 177, 178, 179, 180, 181, 182, 183, 184, 185, 186, 187, 188, 189, 190, 191, 192, 193, 194, 195, 196, 197, 198] (loopK L b5_34 (blockK 0 (seqK (code L (.clear [0, 1, 4, 5, 6, 7, 8, 11, 12, 13, 14, 15, 16, 17, 18, 19, 20, 21, 22, 23, 24, 25, 26, 27, 28, 29, 30, 31, 32, 33, 34, 35, 36, 37, 38, 39, 40, 41, 42, 43, 44, 45, 46, 47, 48, 49, 50, 51, 52, 53, 54, 55, 56, 57, 58, 59, 60, 61, 62, 63, 64, 65, 66, 67, 68, 69, 70, 71, 72, 73, 74, 75, 76, 77, 78, 79, 80, 81, 82, 83, 84, 85, 86, 87, 88, 89, 90, 91, 92, 93, 94, 95, 96, 97, 98, 99, 100, 101, 102, 103, 104, 105, 106, 107, 108, 109, 110, 111, 112, 113, 114, 115, 116, 117, 118, 119, 120, 121, 122, 123, 124, 125, 126, 127, 128, 129, 130, 131, 132, 133, 134, 135, 136, 137, 138, 139, 140, 141, 142, 143, 144, 145, 146, 147, 148, 149, 150, 151, 152, 153, 154, 155, 156, 157, 158, 159, 160, 161, 162, 163, 164, 165, 166, 167, 168, 169, 170, 171, 172, 173, 174, 175, 176, 177, 178, 179, 180, 181, 182, 183, 184, 185, 186, 187, 188, 189, 190, 191, 192, 193, 194, 195, 196, 197, 198] c5_79) (retK [.tmp 8])) (retK [.tmp 8]))))))) [junk, .slice x1 x1n x1c, .int .i64 x2, .int .i64 x3, junk, junk, junk, junk, junk, .pointer x9, .pointer (some ⟨x10, 0, none⟩), junk, .int .i64 x12, .pointer (some ⟨(List.length M), 0, none⟩), junk, junk, junk, junk, junk, junk, junk, junk, junk, junk, junk, junk, junk, junk, junk, junk, junk, junk, junk, junk, junk, junk, junk, junk, junk, junk, junk, junk, junk, junk, junk, junk, junk, junk, junk, junk, junk, junk, junk, junk, junk, junk, junk, junk, junk, junk, junk, junk, junk, junk, junk, junk, junk, junk, junk, junk, junk, junk, junk, junk, junk, junk, junk, junk, junk, junk, junk, junk, junk, junk, junk, junk, junk, junk, junk, junk, junk, junk, junk, junk, junk, junk, junk, junk, junk, junk, junk, junk, junk, junk, junk, junk, junk, junk, junk, junk, junk, junk, junk, junk, junk, junk, junk, junk, junk, junk, junk, junk, junk, junk, junk, junk, junk, junk, junk, junk, junk, junk, junk, junk, junk, junk, junk, junk, junk, junk, junk, junk, junk, junk, junk, junk, junk, junk, junk, junk, junk, junk, junk, junk, junk, junk, junk, junk, junk, junk, junk, junk, junk, junk, junk, junk, junk, junk, junk, junk, junk, junk, junk, junk, junk, junk, junk, junk, junk, junk, junk, junk, junk, junk, junk, junk, junk, junk, junk, junk, junk, junk, junk, junk, junk, junk, junk, junk, junk] M_22)
              else code L c5_63 (blockK 1 (seqK (code L (.clear [0, 4, 5, 6, 7, 8, 11, 13, 14, 15, 16, 17, 18, 19, 20, 21, 22, 23, 24, 25, 26, 27, 28, 29, 30, 31, 32, 33, 34, 35, 36, 37, 38, 39, 40, 41, 42, 43, 44, 45, 46, 47, 48, 49, 50, 51, 52, 53, 54, 55, 56, 57, 58, 59, 60, 61, 62, 63, 64, 65, 66, 67, 68, 69, 70, 71, 72, 73, 74, 75, 76, 77, 78, 79, 80, 81, 82, 83, 84, 85, 86, 87, 88, 89, 90, 91, 92, 93, 94, 95, 96, 97, 98, 99, 100, 101, 102, 103, 104, 105, 106, 107, 108, 109, 110, 111, 112, 113, 114, 115, 116, 117, 118, 119, 120, 121, 122, 123, 124, 125, 126, 127, 128, 129, 130, 131, 132, 133, 134, 135, 136, 137, 138, 139, 140, 141, 142, 143, 144, 145, 146, 147, 148, 149, 150, 151, 152, 153, 154, 155, 156, 157, 158, 159, 160, 161, 162, 163, 164, 165, 166, 167, 168, 169, 170, 171, 172, 173, 174, 175, 176, 177, 178, 179, 180, 181, 182, 183, 184, 185, 186, 187, 188, 189, 190, 191, 192, 193, 194, 195, 196, 197, 198] c5_78) (postK [0, 4, 5, 6, 7, 8, 11, 13, 14, 15, 16, 17, 18, 19, 20, 21, 22, 23, 24, 25, 26, 27, 28, 29, 30, 31, 32, 33, 34, 35, 36, 37, 38, 39, 40, 41, 42, 43, 44, 45, 46, 47, 48, 49, 50, 51, 52, 53, 54, 55, 56, 57, 58, 59, 60, 61, 62, 63, 64, 65, 66, 67, 68, 69, 70, 71, 72, 73, 74, 75, 76, 77, 78, 79, 80, 81, 82, 83, 84, 85, 86, 87, 88, 89, 90, 91, 92, 93, 94, 95, 96, 97, 98, 99, 100, 101, 102, 103, 104, 105, 106, 107, 108, 109, 110, 111, 112, 113, 114, 115, 116, 117, 118, 119, 120, 121, 122, 123, 124, 125, 126, 127, 128, 129, 130, 131, 132, 133, 134, 135, 136, 137, 138, 139, 140, 141, 142, 143, 144, 145, 146, 147, 148, 149, 150, 151, 152, 153, 154, 155, 156, 157, 158, 159, 160, 161, 162, 163, 164, 165, 166, 167, 168, 169, 170, 171, 172, 173, 174, 175, 176, 177, 178, 179, 180, 181, 182, 183, 184, 185, 186, 187, 188, 189, 190, 191, 192, 193, 194, 195, 196, 197, 198] (loopK L b5_34 (blockK 0 (seqK (code L (.clear [0, 1, 4, 5, 6, 7, 8, 11, 12, 13, 14, 15, 16, 17, 18, 19, 20, 21, 22, 23, 24, 25, 26, 27, 28, 29, 30, 31, 32, 33, 34, 35, 36, 37, 38, 39, 40, 41, 42, 43, 44, 45, 46, 47, 48, 49, 50, 51, 52, 53, 54, 55, 56, 57, 58, 59, 60, 61, 62, 63, 64, 65, 66, 67, 68, 69, 70, 71, 72, 73, 74, 75, 76, 77, 78, 79, 80, 81, 82, 83, 84, 85, 86, 87, 88, 89, 90, 91, 92, 93, 94, 95, 96, 97, 98, 99, 100, 101, 102, 103, 104, 105, 106, 107, 108, 109, 110, 111, 112, 113, 114, 115, 116, 117, 118, 119, 120, 121, 122, 123, 124, 125, 126, 127, 128, 129, 130, 131, 132, 133, 134, 135, 136, 137, 138, 139, 140, 141, 142, 143, 144, 145, 146, 147, 148, 149, 150, 151, 152, 153, 154, 155, 156, 157, 158, 159, 160, 161, 162, 163, 164, 165, 166, 167, 168, 169, 170, 171, 172, 173, 174, 175, 176, 177, 178, 179, 180, 181, 182, 183, 184, 185, 186, 187, 188, 189, 190, 191, 192, 193, 194, 195, 196, 197, 198] c5_79) (retK [.tmp 8])) (retK [.tmp 8])))))) (postK [0, 4, 5, 6, 7, 8, 11, 13, 14, 15, 16, 17, 18, 19, 20, 21, 22, 23, 24, 25, 26, 27, 28, 29, 30, 31, 32, 33, 34, 35, 36, 37, 38, 39, 40, 41, 42, 43, 44, 45, 46, 47, 48, 49, 50, 51, 52, 53, 54, 55, 56, 57, 58, 59, 60, 61, 62, 63, 64, 65, 66, 67, 68, 69, 70, 71, 72, 73, 74, 75, 76, 77, 78, 79, 80, 81, 82, 83, 84, 85, 86, 87, 88, 89, 90, 91, 92, 93, 94, 95, 96, 97, 98, 99, 100, 101, 102, 103, 104, 105, 106, 107, 108, 109, 110, 111, 112, 113, 114, 115, 116, 117, 118, 119, 120, 121, 122, 123, 124, 125, 126, 127, 128, 129, 130, 131, 132, 133, 134, 135, 136, 137, 138, 139, 140, 141, 142, 143, 144, 145, 146, 147, 148, 149, 150, 151, 152, 153, 154, 155, 156, 157, 158, 159, 160, 161, 162, 163, 164, 165, 166, 167, 168, 169, 170, 171, 172, 173, 174, 175, 176, 177, 178, 179, 180, 181, 182, 183, 184, 185, 186, 187, 188, 189, 190, 191, 192, 193, 194, 195, 196, 197, 198] (loopK L b5_34 (blockK 0 (seqK (code L (.clear [0, 1, 4, 5, 6, 7, 8, 11, 12, 13, 14, 15, 16, 17, 18, 19, 20, 21, 22, 23, 24, 25, 26, 27, 28, 29, 30, 31, 32, 33, 34, 35, 36, 37, 38, 39, 40, 41, 42, 43, 44, 45, 46, 47, 48, 49, 50, 51, 52, 53, 54, 55, 56, 57, 58, 59, 60, 61, 62, 63, 64, 65, 66, 67, 68, 69, 70, 71, 72, 73, 74, 75, 76, 77, 78, 79, 80, 81, 82, 83, 84, 85, 86, 87, 88, 89, 90, 91, 92, 93, 94, 95, 96, 97, 98, 99, 100, 101, 102, 103, 104, 105, 106, 107, 108, 109, 110, 111, 112, 113, 114, 115, 116, 117, 118, 119, 120, 121, 122, 123, 124, 125, 126, 127, 128, 129, 130, 131, 132, 133, 134, 135, 136, 137, 138, 139, 140, 141, 142, 143, 144, 145, 146, 147, 148, 149, 150, 151, 152, 153, 154, 155, 156, 157, 158, 159, 160, 161, 162, 163, 164, 165, 166, 167, 168, 169, 170, 171, 172, 173, 174, 175, 176, 177, 178, 179, 180, 181, 182, 183, 184, 185, 186, 187, 188, 189, 190, 191, 192, 193, 194, 195, 196, 197, 198] c5_79) (retK [.tmp 8])) (retK [.tmp 8]))))))) [junk, .slice x1 x1n x1c, .int .i64 x2, .int .i64 x3, junk, junk, junk, junk, junk, .pointer x9, .pointer (some ⟨x10, 0, none⟩), junk, .int .i64 x12, .pointer (some ⟨(List.length M), 0, none⟩), junk, junk, junk, junk, junk, junk, junk, junk, junk, junk, junk, junk, junk, junk, junk, junk, junk, junk, junk, junk, junk, junk, junk, junk, junk, junk, junk, junk, junk, junk, junk, junk, junk, junk, junk, junk, junk, junk, junk, junk, junk, junk, junk, junk, junk, junk, junk, junk, junk, junk, junk, junk, junk, junk, junk, junk, junk, junk, junk, junk, junk, junk, junk, junk, junk, junk, junk, junk, junk, junk, junk, junk, junk, junk, junk, junk, junk, junk, junk, junk, junk, junk, junk, junk, junk, junk, junk, junk, junk, junk, junk, junk, junk, junk, junk, junk, junk, junk, junk, junk, junk, junk, junk, junk, junk, junk, junk, junk, junk, junk, junk, junk, junk, junk, junk, junk, junk, junk, junk, junk, junk, junk, junk, junk, junk, junk, junk, junk, junk, junk, junk, junk, junk, junk, junk, junk, junk, junk, junk, junk, junk, junk, junk, junk, junk, junk, junk, junk, junk, junk, junk, junk, junk, junk, junk, junk, junk, junk, junk, junk, junk, junk, junk, junk, junk, junk, junk, junk, junk, junk, junk, junk, junk, junk, junk, junk, junk, junk, junk, junk, junk, junk, junk, junk, junk] r_15.2)))))))))))))))))))))))
        else none)
      | none => none)
    else code L c5_79 (retK [.tmp 8]) [junk, junk, .int .i64 x2, .int .i64 x3, junk, junk, junk, junk, junk, .pointer x9, .pointer (some ⟨x10, 0, none⟩), junk, junk, junk, junk, junk, junk, junk, junk, junk, junk, junk, junk, junk, junk, junk, junk, junk, junk, junk, junk, junk, junk, junk, junk, junk, junk, junk, junk, junk, junk, junk, junk, junk, junk, junk, junk, junk, junk, junk, junk, junk, junk, junk, junk, junk, junk, junk, junk, junk, junk, junk, junk, junk, junk, junk, junk, junk, junk, junk, junk, junk, junk, junk, junk, junk, junk, junk, junk, junk, junk, junk, junk, junk, junk, junk, junk, junk, junk, junk, junk, junk, junk, junk, junk, junk, junk, junk, junk, junk, junk, junk, junk, junk, junk, junk, junk, junk, junk, junk, junk, junk, junk, junk, junk, junk, junk, junk, junk, junk, junk, junk, junk, junk, junk, junk, junk, junk, junk, junk, junk, junk, junk, junk, junk, junk, junk, junk, junk, junk, junk, junk, junk, junk, junk, junk, junk, junk, junk, junk, junk, junk, junk, junk, junk, junk, junk, junk, junk, junk, junk, junk, junk, junk, junk, junk, junk, junk, junk, junk, junk, junk, junk, junk, junk, junk, junk, junk, junk, junk, junk, junk, junk, junk, junk, junk, junk, junk, junk, junk, junk, junk, junk, junk, junk, junk, junk, junk, junk] M) := by kernel_rfl
theorem QP5_34_eq (L : Rec) (hL : ∀ b K t A, L.loop b K t A = code L b (loopK L b K) t A) (P5_34 : Rec → (Option Addr) → Nat → Nat → Int → Int → (Option Addr) → Nat → Int → AMem → Res) (hP5_34 : P5_34 = fun (L : Rec) (x1 : Option Addr) (x1n : Nat) (x1c : Nat) (x2 : Int) (x3 : Int) (x9 : Option Addr) (x10 : Nat) (x12 : Int) (M : AMem) => L.loop b5_34 (k5_34 L) (s5_34 x1 x1n x1c x2 x3 x9 x10 x12 M) M) (P5_63 : Rec → (Option Addr) → Nat → Nat → Int → Int → (Option Addr) → Nat → Int → Nat → AMem → Res) (hP5_63 : P5_63 = fun (L : Rec) (x1 : Option Addr) (x1n : Nat) (x1c : Nat) (x2 : Int) (x3 : Int) (x9 : Option Addr) (x10 : Nat) (x12 : Int) (x13 : Nat) (M : AMem) => code L c5_63 (k5_63 L) (s5_63 x1 x1n x1c x2 x3 x9 x10 x12 x13 M) M) (P5_79 : Rec → Int → Int → (Option Addr) → Nat → AMem → Res) (hP5_79 : P5_79 = fun (L : Rec) (x2 : Int) (x3 : Int) (x9 : Option Addr) (x10 : Nat) (M : AMem) => code L c5_79 (k5_79 L) (s5_79 x2 x3 x9 x10 M) M) (x1 : Option Addr) (x1n : Nat) (x1c : Nat) (x2 : Int) (x3 : Int) (x9 : Option Addr) (x10 : Nat) (x12 : Int) (M : AMem) : P5_34 L x1 x1n x1c x2 x3 x9 x10 x12 M =
  (if (decide (x12 < (Int.ofNat x1n))) = true
    then (match x1 with
      | some a_1 => (if 0 ≤ x12 ∧ x12 < (Int.ofNat x1n)
        then (Option.bind (intOf? .i64 (AMem.ld M a_1.block (a_1.off + ((Int.toNat x12) * 4)))) fun x_2 =>
          (Option.bind (intOf? .i64 (AMem.ld M a_1.block ((a_1.off + ((Int.toNat x12) * 4)) + 1))) fun x_3 =>
          (Option.bind (intOf? .u64 (AMem.ld M a_1.block ((a_1.off + ((Int.toNat x12) * 4)) + 2))) fun x_4 =>
          (Option.bind (intOf? .u64 (AMem.ld M a_1.block ((a_1.off + ((Int.toNat x12) * 4)) + 3))) fun x_5 =>
          (Option.bind (AMem.wr (M ++ [AObj.cells [.int .i64 0, .int .i64 0, .int .u64 0, .int .u64 0] ⟨false, 0⟩]) (List.length M) 0 [.int .i64 x_2, .int .i64 x_3, .int .u64 x_4, .int .u64 x_5]) fun M_6 =>
          (Option.bind (intOf? .i64 (AMem.ld M_6 (List.length M) 1)) fun x_7 =>
          (Option.bind (L.call 26 [.pointer (some ⟨x10, 0, none⟩), .int .i64 x_7] M_6) fun r_8 =>
          (Option.bind (tupOf? 2 r_8.1) fun cs_9 =>
          (Option.bind (cs_9[0]?) fun u_10 =>
          (Option.bind (intOf? .u64 (some u_10)) fun x_11 =>
          (Option.bind (cs_9[1]?) fun u_12 =>
          (Option.bind (boolOf? (some u_12)) fun q_13 =>
          (Option.bind (intOf? .i64 (AMem.ld r_8.2 (List.length M) 1)) fun x_14 =>
          (Option.bind (L.call 27 [.pointer x9, .int .i64 x_14] r_8.2) fun r_15 =>
          (Option.bind (tupOf? 2 r_15.1) fun cs_16 =>
          (Option.bind (cs_16[0]?) fun u_17 =>
          (Option.bind (intOf? .u64 (some u_17)) fun x_18 =>
          (Option.bind (cs_16[1]?) fun u_19 =>
          (Option.bind (boolOf? (some u_19)) fun q_20 =>
          (if (x_11 != x_18) = true
          then some (.bool false, r_15.2)
          else (if (!(q_13 == q_20)) = true
            then some (.bool false, r_15.2)
            else (Option.bind (intOf? .i64 (AMem.ld r_15.2 (List.length M) 0)) fun x_21 =>
              (if (x_21 == 2) = true
              then (Option.bind (AMem.wr r_15.2 (List.length M) 2 [.int .u64 x_11]) fun M_22 =>
                P5_63 L x1 x1n x1c x2 x3 x9 x10 x12 (List.length M) M_22)
              else P5_63 L x1 x1n x1c x2 x3 x9 x10 x12 (List.length M) r_15.2)))))))))))))))))))))))
        else none)
      | none => none)
    else P5_79 L x2 x3 x9 x10 M) := by
  subst hP5_34; subst hP5_63; subst hP5_79; exact Eq.trans (b := code L b5_34 (loopK L b5_34 (k5_34 L)) (s5_34 x1 x1n x1c x2 x3 x9 x10 x12 M) M) (hL b5_34 (k5_34 L) (s5_34 x1 x1n x1c x2 x3 x9 x10 x12 M) M) (Eq.mp (by kernel_rfl) (G5_34 L b5_34 c5_63 c5_78 c5_79 x1 x1n x1c x2 x3 x9 x10 x12 M))
theorem P5_34_eq (L : Rec) (hL : ∀ b K t A, L.loop b K t A = code L b (loopK L b K) t A) (x1 : Option Addr) (x1n : Nat) (x1c : Nat) (x2 : Int) (x3 : Int) (x9 : Option Addr) (x10 : Nat) (x12 : Int) (M : AMem) : P5_34 L x1 x1n x1c x2 x3 x9 x10 x12 M =
  (if (decide (x12 < (Int.ofNat x1n))) = true
    then (match x1 with
      | some a_1 => (if 0 ≤ x12 ∧ x12 < (Int.ofNat x1n)
        then (Option.bind (intOf? .i64 (AMem.ld M a_1.block (a_1.off + ((Int.toNat x12) * 4)))) fun x_2 =>
          (Option.bind (intOf? .i64 (AMem.ld M a_1.block ((a_1.off + ((Int.toNat x12) * 4)) + 1))) fun x_3 =>
          (Option.bind (intOf? .u64 (AMem.ld M a_1.block ((a_1.off + ((Int.toNat x12) * 4)) + 2))) fun x_4 =>
          (Option.bind (intOf? .u64 (AMem.ld M a_1.block ((a_1.off + ((Int.toNat x12) * 4)) + 3))) fun x_5 =>
          (Option.bind (AMem.wr (M ++ [AObj.cells [.int .i64 0, .int .i64 0, .int .u64 0, .int .u64 0] ⟨false, 0⟩]) (List.length M) 0 [.int .i64 x_2, .int .i64 x_3, .int .u64 x_4, .int .u64 x_5]) fun M_6 =>
          (Option.bind (intOf? .i64 (AMem.ld M_6 (List.length M) 1)) fun x_7 =>
          (Option.bind (L.call 26 [.pointer (some ⟨x10, 0, none⟩), .int .i64 x_7] M_6) fun r_8 =>
          (Option.bind (tupOf? 2 r_8.1) fun cs_9 =>
          (Option.bind (cs_9[0]?) fun u_10 =>
          (Option.bind (intOf? .u64 (some u_10)) fun x_11 =>
          (Option.bind (cs_9[1]?) fun u_12 =>
          (Option.bind (boolOf? (some u_12)) fun q_13 =>
          (Option.bind (intOf? .i64 (AMem.ld r_8.2 (List.length M) 1)) fun x_14 =>
          (Option.bind (L.call 27 [.pointer x9, .int .i64 x_14] r_8.2) fun r_15 =>
          (Option.bind (tupOf? 2 r_15.1) fun cs_16 =>
          (Option.bind (cs_16[0]?) fun u_17 =>
          (Option.bind (intOf? .u64 (some u_17)) fun x_18 =>
          (Option.bind (cs_16[1]?) fun u_19 =>
          (Option.bind (boolOf? (some u_19)) fun q_20 =>
          (if (x_11 != x_18) = true
          then some (.bool false, r_15.2)
          else (if (!(q_13 == q_20)) = true
            then some (.bool false, r_15.2)
            else (Option.bind (intOf? .i64 (AMem.ld r_15.2 (List.length M) 0)) fun x_21 =>
              (if (x_21 == 2) = true
              then (Option.bind (AMem.wr r_15.2 (List.length M) 2 [.int .u64 x_11]) fun M_22 =>
                P5_63 L x1 x1n x1c x2 x3 x9 x10 x12 (List.length M) M_22)
              else P5_63 L x1 x1n x1c x2 x3 x9 x10 x12 (List.length M) r_15.2)))))))))))))))))))))))
        else none)
      | none => none)
    else P5_79 L x2 x3 x9 x10 M) := QP5_34_eq L hL P5_34 (Classical.choose_spec XP5_34) P5_63 (Classical.choose_spec XP5_63) P5_79 (Classical.choose_spec XP5_79) x1 x1n x1c x2 x3 x9 x10 x12 M
theorem G5_63 (L : Rec) (b5_34 c5_78 c5_79 : ACode) (x1 : Option Addr) (x1n : Nat) (x1c : Nat) (x2 : Int) (x3 : Int) (x9 : Option Addr) (x10 : Nat) (x12 : Int) (x13 : Nat) (M : AMem) : code L (.seq (.seq (.draw [] 0 o5_65 [(13, 11), (15, 11), (17, 11)]) (.cond (.tmp 106) (.seq (.ops o5_68) (.ret)) (.skip))) (.seq (.draw [] 0 o5_72 [(3, 1), (9, 7)]) (.cond (.tmp 118) (.seq (.ops o5_75) (.ret)) (.skip)))) (blockK 1 (seqK (code L (.clear [0, 4, 5, 6, 7, 8, 11, 13, 14, 15, 16, 17, 18, 19, 20, 21, 22, 23, 24, 25, 26, 27, 28, 29, 30, 31, 32, 33, 34, 35, 36, 37, 38, 39, 40, 41, 42, 43, 44, 45, 46, 47, 48, 49, 50, 51, 52, 53, 54, 55, 56, 57, 58, 59, 60, 61, 62, 63, 64, 65, 66, 67, 68, 69, 70, 71, 72, 73, 74, 75, 76, 77, 78, 79, 80, 81, 82, 83, 84, 85, 86, 87, 88, 89, 90, 91, 92, 93, 94, 95, 96, 97, 98, 99, 100, 101, 102, 103, 104, 105, 106, 107, 108, 109, 110, 111, 112, 113, 114, 115, 116, 117, 118, 119, 120, 121, 122, 123, 124, 125, 126, 127, 128, 129, 130, 131, 132, 133, 134, 135, 136, 137, 138, 139, 140, 141, 142, 143, 144, 145, 146, 147, 148, 149, 150, 151, 152, 153, 154, 155, 156, 157, 158, 159, 160, 161, 162, 163, 164, 165, 166, 167, 168, 169, 170, 171, 172, 173, 174, 175, 176, 177, 178, 179, 180, 181, 182, 183, 184, 185, 186, 187, 188, 189, 190, 191, 192, 193, 194, 195, 196, 197, 198] c5_78) (postK [0, 4, 5, 6, 7, 8, 11, 13, 14, 15, 16, 17, 18, 19, 20, 21, 22, 23, 24, 25, 26, 27, 28, 29, 30, 31, 32, 33, 34, 35, 36, 37, 38, 39, 40, 41, 42, 43, 44, 45, 46, 47, 48, 49, 50, 51, 52, 53, 54, 55, 56, 57, 58, 59, 60, 61, 62, 63, 64, 65, 66, 67, 68, 69, 70, 71, 72, 73, 74, 75, 76, 77, 78, 79, 80, 81, 82, 83, 84, 85, 86, 87, 88, 89, 90, 91, 92, 93, 94, 95, 96, 97, 98, 99, 100, 101, 102, 103, 104, 105, 106, 107, 108, 109, 110, 111, 112, 113, 114, 115, 116, 117, 118, 119, 120, 121, 122, 123, 124, 125, 126, 127, 128, 129, 130, 131, 132, 133, 134, 135, 136, 137, 138, 139, 140, 141, 142, 143, 144, 145, 146, 147, 148, 149, 150, 151, 152, 153, 154, 155, 156, 157, 158, 159, 160, 161, 162, 163, 164, 165, 166, 167, 168, 169, 170, 171, 172, 173, 174, 175, 176, 177, 178, 179, 180, 181, 182, 183, 184, 185, 186, 187, 188, 189, 190, 191, 192, 193, 194, 195, 196, 197, 198] (loopK L b5_34 (blockK 0 (seqK (code L (.clear [0, 1, 4, 5, 6, 7, 8, 11, 12, 13, 14, 15, 16, 17, 18, 19, 20, 21, 22, 23, 24, 25, 26, 27, 28, 29, 30, 31, 32, 33, 34, 35, 36, 37, 38, 39, 40, 41, 42, 43, 44, 45, 46, 47, 48, 49, 50, 51, 52, 53, 54, 55, 56, 57, 58, 59, 60, 61, 62, 63, 64, 65, 66, 67, 68, 69, 70, 71, 72, 73, 74, 75, 76, 77, 78, 79, 80, 81, 82, 83, 84, 85, 86, 87, 88, 89, 90, 91, 92, 93, 94, 95, 96, 97, 98, 99, 100, 101, 102, 103, 104, 105, 106, 107, 108, 109, 110, 111, 112, 113, 114, 115, 116, 117, 118, 119, 120, 121, 122, 123, 124, 125, 126, 127, 128, 129, 130, 131, 132, 133, 134, 135, 136, 137, 138, 139, 140, 141, 142, 143, 144, 145, 146, 147, 148, 149, 150, 151, 152, 153, 154, 155, 156, 157, 158, 159, 160, 161, 162, 163, 164, 165, 166, 167, 168, 169, 170, 171, 172, 173, 174, 175, 176, 177, 178, 179, 180, 181, 182, 183, 184, 185, 186, 187, 188, 189, 190, 191, 192, 193, 194, 195, 196, 197, 198] c5_79) (retK [.tmp 8])) (retK [.tmp 8])))))) (postK [0, 4, 5, 6, 7, 8, 11, 13, 14, 15, 16, 17, 18, 19, 20, 21, 22, 23, 24, 25, 26, 27, 28, 29, 30, 31, 32, 33, 34, 35, 36, 37, 38, 39, 40, 41, 42, 43, 44, 45, 46, 47, 48, 49, 50, 51, 52, 53, 54, 55, 56, 57, 58, 59, 60, 61, 62, 63, 64, 65, 66, 67, 68, 69, 70, 71, 72, 73, 74, 75, 76, 77, 78, 79, 80, 81, 82, 83, 84, 85, 86, 87, 88, 89, 90, 91, 92, 93, 94, 95, 96, 97, 98, 99, 100, 101, 102, 103, 104, 105, 106, 107, 108, 109, 110, 111, 112, 113, 114, 115, 116, 117, 118, 119, 120, 121, 122, 123, 124, 125, 126, 127, 128, 129, 130, 131, 132, 133, 134, 135, 136, 137, 138, 139, 140, 141, 142, 143, 144, 145, 146, 147, 148, 149, 150, 151, 152, 153, 154, 155, 156, 157, 158, 159, 160, 161, 162, 163, 164, 165, 166, 167, 168, 169, 170, 171, 172, 173, 174, 175, 176, 177, 178, 179, 180, 181, 182, 183, 184, 185, 186, 187, 188, 189, 190, 191, 192, 193, 194, 195, 196, 197, 198] (loopK L b5_34 (blockK 0 (seqK (code L (.clear [0, 1, 4, 5, 6, 7, 8, 11, 12, 13, 14, 15, 16, 17, 18, 19, 20, 21, 22, 23, 24, 25, 26, 27, 28, 29, 30, 31, 32, 33, 34, 35, 36, 37, 38, 39, 40, 41, 42, 43, 44, 45, 46, 47, 48, 49, 50, 51, 52, 53, 54, 55, 56, 57, 58, 59, 60, 61, 62, 63, 64, 65, 66, 67, 68, 69, 70, 71, 72, 73, 74, 75, 76, 77, 78, 79, 80, 81, 82, 83, 84, 85, 86, 87, 88, 89, 90, 91, 92, 93, 94, 95, 96, 97, 98, 99, 100, 101, 102, 103, 104, 105, 106, 107, 108, 109, 110, 111, 112, 113, 114, 115, 116, 117, 118, 119, 120, 121, 122, 123, 124, 125, 126, 127, 128, 129, 130, 131, 132, 133, 134, 135, 136, 137, 138, 139, 140, 141, 142, 143, 144, 145, 146, 147, 148, 149, 150, 151, 152, 153, 154, 155, 156, 157, 158, 159, 160, 161, 162, 163, 164, 165, 166, 167, 168, 169, 170, 171, 172, 173, 174, 175, 176, 177, 178, 179, 180, 181, 182, 183, 184, 185, 186, 187, 188, 189, 190, 191, 192, 193, 194, 195, 196, 197, 198] c5_79) (retK [.tmp 8])) (retK [.tmp 8]))))))) [junk, .slice x1 x1n x1c, .int .i64 x2, .int .i64 x3, junk, junk, junk, junk, junk, .pointer x9, .pointer (some ⟨x10, 0, none⟩), junk, .int .i64 x12, .pointer (some ⟨x13, 0, none⟩), junk, junk, junk, junk, junk, junk, junk, junk, junk, junk, junk, junk, junk, junk, junk, junk, junk, junk, junk, junk, junk, junk, junk, junk, junk, junk, junk, junk, junk, junk, junk, junk, junk, junk, junk, junk, junk, junk, junk, junk, junk, junk, junk, junk, junk, junk, junk, junk, junk, junk, junk, junk, junk, junk, junk, junk, junk, junk, junk, junk, junk, junk, junk, junk, junk, junk, junk, junk, junk, junk, junk, junk, junk, junk, junk, junk, junk, junk, junk, junk, junk, junk, junk, junk, junk, junk, junk, junk, junk, junk, junk, junk, junk, junk, junk, junk, junk, junk, junk, junk, junk, junk, junk, junk, junk, junk, junk, junk, junk, junk, junk, junk, junk, junk, junk, junk, junk, junk, junk, junk, junk, junk, junk, junk, junk, junk, junk, junk, junk, junk, junk, junk, junk, junk, junk, junk, junk, junk, junk, junk, junk, junk, junk, junk, junk, junk, junk, junk, junk, junk, junk, junk, junk, junk, junk, junk, junk, junk, junk, junk, junk, junk, junk, junk, junk, junk, junk, junk, junk, junk, junk, junk, junk, junk, junk, junk, junk, junk, junk, junk, junk, junk, junk, junk, junk] M =
  (Option.bind (intOf? .i64 (AMem.ld M x13 0)) fun x_1 =>
    (if (decide (x_1 > 0)) = true
    then (Option.bind (intOf? .i64 (AMem.ld M x13 1)) fun x_2 =>
      (Option.bind (intOf? .u64 (AMem.ld M x13 2)) fun x_3 =>
      (Option.bind (intOf? .u64 (AMem.ld M x13 3)) fun x_4 =>
      (Option.bind (L.call 28 [.pointer x9, .int .i64 x_2, .int .u64 x_3, .int .u64 x_4] M) fun r_5 =>
      (Option.bind (boolOf? (some r_5.1)) fun q_6 =>
      (Option.bind (intOf? .i64 (AMem.ld r_5.2 x13 1)) fun x_7 =>
      (Option.bind (intOf? .u64 (AMem.ld r_5.2 x13 2)) fun x_8 =>
      (Option.bind (intOf? .u64 (AMem.ld r_5.2 x13 3)) fun x_9 =>
      (Option.bind (L.call 29 [.pointer (some ⟨x10, 0, none⟩), .int .i64 x_7, .int .u64 x_8, .int .u64 x_9] r_5.2) fun r_10 =>
      (Option.bind (boolOf? (some r_10.1)) fun q_11 =>
      (if chkOk [(13, 11), (15, 11), (17, 11)] [(17, x13), (15, x13), (13, x13)] [(11, (M, r_5.2))] = true
      then (if (!(q_6 == q_11)) = true
        then some (.bool false, r_10.2)
        else (Option.bind (L.call 30 [.pointer x9] r_10.2) fun r_12 =>
          (Option.bind (intOf? .i64 (some r_12.1)) fun x_13 =>
          (Option.bind (intOf? .i64 (AMem.ld r_12.2 x10 1)) fun x_14 =>
          (if (x_13 != x_14) = true
          then (if chkOk [(3, 1), (9, 7)] [(3, x10)] [(7, (r_12.2, r_12.2)), (1, (r_10.2, r_12.2))] = true
            then some (.bool false, r_12.2)
            else none)
          else (Option.bind (L.call 31 [.pointer x9] r_12.2) fun r_15 =>
            (Option.bind (intOf? .i64 (some r_15.1)) fun x_16 =>
            (Option.bind (intOf? .i64 (AMem.ld r_15.2 x10 2)) fun x_17 =>
            (if chkOk [(3, 1), (9, 7)] [(9, x10), (3, x10)] [(7, (r_12.2, r_15.2)), (1, (r_10.2, r_12.2))] = true
            then (if (x_16 != x_17) = true
              then some (.bool false, r_15.2)
              else code L c5_78 (postK [0, 4, 5, 6, 7, 8, 11, 13, 14, 15, 16, 17, 18, 19, 20, 21, 22, 23, 24, 25, 26, 27, 28, 29, 30, 31, 32, 33, 34, 35, 36, 37, 38, 39, 40, 41, 42, 43, 44, 45, 46, 47, 48, 49, 50, 51, 52, 53, 54, 55, 56, 57, 58, 59, 60, 61, 62, 63, 64, 65, 66, 67, 68, 69, 70, 71, 72, 73, 74, 75, 76, 77, 78, 79, 80, 81, 82, 83, 84, 85, 86, 87, 88, 89, 90, 91, 92, 93, 94, 95, 96, 97, 98, 99, 100, 101, 102, 103, 104, 105, 106, 107, 108, 109, 110, 111, 112, 113, 114, 115, 116, 117, 118, 119, 120, 121, 122, 123, 124, 125, 126, 127, 128, 129, 130, 131, 132, 133, 134, 135, 136, 137, 138, 139, 140, 141, 142, 143, 144, 145, 146, 147, 148, 149, 150, 151, 152, 153, 154, 155, 156, 157, 158, 159, 160, 161, 162, 163, 164, 165, 166, 167, 168, 169, 170, 171, 172, 173, 174, 175, 176, 177, 178, 179, 180, 181, 182, 183, 184, 185, 186, 187, 188, 189, 190, 191, 192, 193, 194, 195, 196, 197, 198] (loopK L b5_34 (blockK 0 (seqK (code L (.clear [0, 1, 4, 5, 6, 7, 8, 11, 12, 13, 14, 15, 16, 17, 18, 19, 20, 21, 22, 23, 24, 25, 26, 27, 28, 29, 30, 31, 32, 33, 34, 35, 36, 37, 38, 39, 40, 41, 42, 43, 44, 45, 46, 47, 48, 49, 50, 51, 52, 53, 54, 55, 56, 57, 58, 59, 60, 61, 62, 63, 64, 65, 66, 67, 68, 69, 70, 71, 72, 73, 74, 75, 76, 77, 78, 79, 80, 81, 82, 83, 84, 85, 86, 87, 88, 89, 90, 91, 92, 93, 94, 95, 96, 97, 98, 99, 100, 101, 102, 103, 104, 105, 106, 107, 108, 109, 110, 111, 112, 113, 114, 115, 116, 117, 118, 119, 120, 121, 122, 123, 124, 125, 126, 127, 128, 129, 130, 131, 132, 133, 134, 135, 136, 137, 138, 139, 140, 141, 142, 143, 144, 145, 146, 147, 148, 149, 150, 151, 152, 153, 154, 155, 156, 157, 158, 159, 160, 161, 162, 163, 164, 165, 166, 167, 168, 169, 170, 171, 172, 173, 174, 175, 176, 177, 178, 179, 180, 181, 182, 183, 184, 185, 186, 187, 188, 189, 190, 191, 192, 193, 194, 195, 196, 197, 198] c5_79) (retK [.tmp 8])) (retK [.tmp 8]))))) [junk, .slice x1 x1n x1c, .int .i64 x2, .int .i64 x3, junk, junk, junk, junk, junk, .pointer x9, .pointer (some ⟨x10, 0, none⟩), junk, .int .i64 x12, junk, junk, junk, junk, junk, junk, junk, junk, junk, junk, junk, junk, junk, junk, junk, junk, junk, junk, junk, junk, junk, junk, junk, junk, junk, junk, junk, junk, junk, junk, junk, junk, junk, junk, junk, junk, junk, junk, junk, junk, junk, junk, junk, junk, junk, junk, junk, junk, junk, junk, junk, junk, junk, junk, junk, junk, junk, junk, junk, junk, junk, junk, junk, junk, junk, junk, junk, junk, junk, junk, junk, junk, junk, junk, junk, junk, junk, junk, junk, junk, junk, junk, junk, junk, junk, junk, junk, junk, junk, junk, junk, junk, junk, junk, junk, junk, junk, junk, junk, junk, junk, junk, junk, junk, junk, junk, junk, junk, junk, junk, junk, junk, junk, junk, junk, junk, junk, junk, junk, junk, junk, junk, junk, junk, junk, junk, junk, junk, junk, junk, junk, junk, junk, junk, junk, junk, junk, junk, junk, junk, junk, junk, junk, junk, junk, junk, junk, junk, junk, junk, junk, junk, junk, junk, junk, junk, junk, junk, junk, junk, junk, junk, junk, junk, junk, junk, junk, junk, junk, junk, junk, junk, junk, junk, junk, junk, junk, junk, junk, junk, junk, junk, junk, junk, junk, junk] r_15.2)
            else none)))))))))
      else none)))))))))))
    else (Option.bind (L.call 30 [.pointer x9] M) fun r_18 =>
      (Option.bind (intOf? .i64 (some r_18.1)) fun x_19 =>
      (Option.bind (intOf? .i64 (AMem.ld r_18.2 x10 1)) fun x_20 =>
      (if (x_19 != x_20) = true
      then (if chkOk [(3, 1), (9, 7)] [(3, x10)] [(7, (r_18.2, r_18.2)), (1, (M, r_18.2))] = true
        then some (.bool false, r_18.2)
        else none)
      else (Option.bind (L.call 31 [.pointer x9] r_18.2) fun r_21 =>
        (Option.bind (intOf? .i64 (some r_21.1)) fun x_22 =>
        (Option.bind (intOf? .i64 (AMem.ld r_21.2 x10 2)) fun x_23 =>
        (if chkOk [(3, 1), (9, 7)] [(9, x10), (3, x10)] [(7, (r_18.2, r_21.2)), (1, (M, r_18.2))] = true
        then (if (x_22 != x_23) = true
          then some (.bool false, r_21.2)
          else code L c5_78 (postK [0, 4, 5, 6, 7, 8, 11, 13, 14, 15, 16, 17, 18, 19, 20, 21, 22, 23, 24, 25, 26, 27, 28, 29, 30, 31, 32, 33, 34, 35, 36, 37, 38, 39, 40, 41, 42, 43, 44, 45, 46, 47, 48, 49, 50, 51, 52, 53, 54, 55, 56, 57, 58, 59, 60, 61, 62, 63, 64, 65, 66, 67, 68, 69, 70, 71, 72, 73, 74, 75, 76, 77, 78, 79, 80, 81, 82, 83, 84, 85, 86, 87, 88, 89, 90, 91, 92, 93, 94, 95, 96, 97, 98, 99, 100, 101, 102, 103, 104, 105, 106, 107, 108, 109, 110, 111, 112, 113, 114, 115, 116, 117, 118, 119, 120, 121, 122, 123, 124, 125, 126, 127, 128, 129, 130, 131, 132, 133, 134, 135, 136, 137, 138, 139, 140, 141, 142, 143, 144, 145, 146, 147, 148, 149, 150, 151, 152, 153, 154, 155, 156, 157, 158, 159, 160, 161, 162, 163, 164, 165, 166, 167, 168, 169, 170, 171, 172, 173, 174, 175, 176, 177, 178, 179, 180, 181, 182, 183, 184, 185, 186, 187, 188, 189, 190, 191, 192, 193, 194, 195, 196, 197, 198] (loopK L b5_34 (blockK 0 (seqK (code L (.clear [0, 1, 4, 5, 6, 7, 8, 11, 12, 13, 14, 15, 16, 17, 18, 19, 20, 21, 22, 23, 24, 25, 26, 27, 28, 29, 30, 31, 32, 33, 34, 35, 36, 37, 38, 39, 40, 41, 42, 43, 44, 45, 46, 47, 48, 49, 50, 51, 52, 53, 54, 55, 56, 57, 58, 59, 60, 61, 62, 63, 64, 65, 66, 67, 68, 69, 70, 71, 72, 73, 74, 75, 76, 77, 78, 79, 80, 81, 82, 83, 84, 85, 86, 87, 88, 89, 90, 91, 92, 93, 94, 95, 96, 97, 98, 99, 100, 101, 102, 103, 104, 105, 106, 107, 108, 109, 110, 111, 112, 113, 114, 115, 116, 117, 118, 119, 120, 121, 122, 123, 124, 125, 126, 127, 128, 129, 130, 131, 132, 133, 134, 135, 136, 137, 138, 139, 140, 141, 142, 143, 144, 145, 146, 147, 148, 149, 150, 151, 152, 153, 154, 155, 156, 157, 158, 159, 160, 161, 162, 163, 164, 165, 166, 167, 168, 169, 170, 171, 172, 173, 174, 175, 176, 177, 178, 179, 180, 181, 182, 183, 184, 185, 186, 187, 188, 189, 190, 191, 192, 193, 194, 195, 196, 197, 198] c5_79) (retK [.tmp 8])) (retK [.tmp 8]))))) [junk, .slice x1 x1n x1c, .int .i64 x2, .int .i64 x3, junk, junk, junk, junk, junk, .pointer x9, .pointer (some ⟨x10, 0, none⟩), junk, .int .i64 x12, junk, junk, junk, junk, junk, junk, junk, junk, junk, junk, junk, junk, junk, junk, junk, junk, junk, junk, junk, junk, junk, junk, junk, junk, junk, junk, junk, junk, junk, junk, junk, junk, junk, junk, junk, junk, junk, junk, junk, junk, junk, junk, junk, junk, junk, junk, junk, junk, junk, junk, junk, junk, junk, junk, junk, junk, junk, junk, junk, junk, junk, junk, junk, junk, junk, junk, junk, junk, junk, junk, junk, junk, junk, junk, junk, junk, junk, junk, junk, junk, junk, junk, junk, junk, junk, junk, junk, junk, junk, junk, junk, junk, junk, junk, junk, junk, junk, junk, junk, junk, junk, junk, junk, junk, junk, junk, junk, junk, junk, junk, junk, junk, junk, junk, junk, junk, junk, junk, junk, junk, junk, junk, junk, junk, junk, junk, junk, junk, junk, junk, junk, junk, junk, junk, junk, junk, junk, junk, junk, junk, junk, junk, junk, junk, junk, junk, junk, junk, junk, junk, junk, junk, junk, junk, junk, junk, junk, junk, junk, junk, junk, junk, junk, junk, junk, junk, junk, junk, junk, junk, junk, junk, junk, junk, junk, junk, junk, junk, junk, junk, junk, junk, junk, junk, junk, junk] r_21.2)
        else none)))))))))) := by kernel_rfl
theorem QP5_63_eq (L : Rec) (P5_63 : Rec → (Option Addr) → Nat → Nat → Int → Int → (Option Addr) → Nat → Int → Nat → AMem → Res) (hP5_63 : P5_63 = fun (L : Rec) (x1 : Option Addr) (x1n : Nat) (x1c : Nat) (x2 : Int) (x3 : Int) (x9 : Option Addr) (x10 : Nat) (x12 : Int) (x13 : Nat) (M : AMem) => code L c5_63 (k5_63 L) (s5_63 x1 x1n x1c x2 x3 x9 x10 x12 x13 M) M) (P5_78 : Rec → (Option Addr) → Nat → Nat → Int → Int → (Option Addr) → Nat → Int → AMem → Res) (hP5_78 : P5_78 = fun (L : Rec) (x1 : Option Addr) (x1n : Nat) (x1c : Nat) (x2 : Int) (x3 : Int) (x9 : Option Addr) (x10 : Nat) (x12 : Int) (M : AMem) => code L c5_78 (k5_78 L) (s5_78 x1 x1n x1c x2 x3 x9 x10 x12 M) M) (x1 : Option Addr) (x1n : Nat) (x1c : Nat) (x2 : Int) (x3 : Int) (x9 : Option Addr) (x10 : Nat) (x12 : Int) (x13 : Nat) (M : AMem) : P5_63 L x1 x1n x1c x2 x3 x9 x10 x12 x13 M =
  (Option.bind (intOf? .i64 (AMem.ld M x13 0)) fun x_1 =>
    (if (decide (x_1 > 0)) = true
    then (Option.bind (intOf? .i64 (AMem.ld M x13 1)) fun x_2 =>
      (Option.bind (intOf? .u64 (AMem.ld M x13 2)) fun x_3 =>
      (Option.bind (intOf? .u64 (AMem.ld M x13 3)) fun x_4 =>
      (Option.bind (L.call 28 [.pointer x9, .int .i64 x_2, .int .u64 x_3, .int .u64 x_4] M) fun r_5 =>
      (Option.bind (boolOf? (some r_5.1)) fun q_6 =>
      (Option.bind (intOf? .i64 (AMem.ld r_5.2 x13 1)) fun x_7 =>
      (Option.bind (intOf? .u64 (AMem.ld r_5.2 x13 2)) fun x_8 =>
      (Option.bind (intOf? .u64 (AMem.ld r_5.2 x13 3)) fun x_9 =>
      (Option.bind (L.call 29 [.pointer (some ⟨x10, 0, none⟩), .int .i64 x_7, .int .u64 x_8, .int .u64 x_9] r_5.2) fun r_10 =>
      (Option.bind (boolOf? (some r_10.1)) fun q_11 =>
      (if chkOk [(13, 11), (15, 11), (17, 11)] [(17, x13), (15, x13), (13, x13)] [(11, (M, r_5.2))] = true
      then (if (!(q_6 == q_11)) = true
        then some (.bool false, r_10.2)
        else (Option.bind (L.call 30 [.pointer x9] r_10.2) fun r_12 =>
          (Option.bind (intOf? .i64 (some r_12.1)) fun x_13 =>
          (Option.bind (intOf? .i64 (AMem.ld r_12.2 x10 1)) fun x_14 =>
          (if (x_13 != x_14) = true
          then (if chkOk [(3, 1), (9, 7)] [(3, x10)] [(7, (r_12.2, r_12.2)), (1, (r_10.2, r_12.2))] = true
            then some (.bool false, r_12.2)
            else none)
          else (Option.bind (L.call 31 [.pointer x9] r_12.2) fun r_15 =>
            (Option.bind (intOf? .i64 (some r_15.1)) fun x_16 =>
            (Option.bind (intOf? .i64 (AMem.ld r_15.2 x10 2)) fun x_17 =>
            (if chkOk [(3, 1), (9, 7)] [(9, x10), (3, x10)] [(7, (r_12.2, r_15.2)), (1, (r_10.2, r_12.2))] = true
            then (if (x_16 != x_17) = true
              then some (.bool false, r_15.2)
              else P5_78 L x1 x1n x1c x2 x3 x9 x10 x12 r_15.2)
            else none)))))))))
      else none)))))))))))
    else (Option.bind (L.call 30 [.pointer x9] M) fun r_18 =>
      (Option.bind (intOf? .i64 (some r_18.1)) fun x_19 =>
      (Option.bind (intOf? .i64 (AMem.ld r_18.2 x10 1)) fun x_20 =>
      (if (x_19 != x_20) = true
      then (if chkOk [(3, 1), (9, 7)] [(3, x10)] [(7, (r_18.2, r_18.2)), (1, (M, r_18.2))] = true
        then some (.bool false, r_18.2)
        else none)
      else (Option.bind (L.call 31 [.pointer x9] r_18.2) fun r_21 =>
        (Option.bind (intOf? .i64 (some r_21.1)) fun x_22 =>
        (Option.bind (intOf? .i64 (AMem.ld r_21.2 x10 2)) fun x_23 =>
        (if chkOk [(3, 1), (9, 7)] [(9, x10), (3, x10)] [(7, (r_18.2, r_21.2)), (1, (M, r_18.2))] = true
        then (if (x_22 != x_23) = true
          then some (.bool false, r_21.2)
          else P5_78 L x1 x1n x1c x2 x3 x9 x10 x12 r_21.2)
        else none)))))))))) := by
  subst hP5_63; subst hP5_78; exact Eq.mp (by kernel_rfl) (G5_63 L b5_34 c5_78 c5_79 x1 x1n x1c x2 x3 x9 x10 x12 x13 M)
theorem P5_63_eq (L : Rec) (x1 : Option Addr) (x1n : Nat) (x1c : Nat) (x2 : Int) (x3 : Int) (x9 : Option Addr) (x10 : Nat) (x12 : Int) (x13 : Nat) (M : AMem) : P5_63 L x1 x1n x1c x2 x3 x9 x10 x12 x13 M =
  (Option.bind (intOf? .i64 (AMem.ld M x13 0)) fun x_1 =>
    (if (decide (x_1 > 0)) = true
    then (Option.bind (intOf? .i64 (AMem.ld M x13 1)) fun x_2 =>
      (Option.bind (intOf? .u64 (AMem.ld M x13 2)) fun x_3 =>
      (Option.bind (intOf? .u64 (AMem.ld M x13 3)) fun x_4 =>
      (Option.bind (L.call 28 [.pointer x9, .int .i64 x_2, .int .u64 x_3, .int .u64 x_4] M) fun r_5 =>
      (Option.bind (boolOf? (some r_5.1)) fun q_6 =>
      (Option.bind (intOf? .i64 (AMem.ld r_5.2 x13 1)) fun x_7 =>
      (Option.bind (intOf? .u64 (AMem.ld r_5.2 x13 2)) fun x_8 =>
      (Option.bind (intOf? .u64 (AMem.ld r_5.2 x13 3)) fun x_9 =>
      (Option.bind (L.call 29 [.pointer (some ⟨x10, 0, none⟩), .int .i64 x_7, .int .u64 x_8, .int .u64 x_9] r_5.2) fun r_10 =>
      (Option.bind (boolOf? (some r_10.1)) fun q_11 =>
      (if chkOk [(13, 11), (15, 11), (17, 11)] [(17, x13), (15, x13), (13, x13)] [(11, (M, r_5.2))] = true
      then (if (!(q_6 == q_11)) = true
        then some (.bool false, r_10.2)
        else (Option.bind (L.call 30 [.pointer x9] r_10.2) fun r_12 =>
          (Option.bind (intOf? .i64 (some r_12.1)) fun x_13 =>
          (Option.bind (intOf? .i64 (AMem.ld r_12.2 x10 1)) fun x_14 =>
          (if (x_13 != x_14) = true
          then (if chkOk [(3, 1), (9, 7)] [(3, x10)] [(7, (r_12.2, r_12.2)), (1, (r_10.2, r_12.2))] = true
            then some (.bool false, r_12.2)
            else none)
          else (Option.bind (L.call 31 [.pointer x9] r_12.2) fun r_15 =>
            (Option.bind (intOf? .i64 (some r_15.1)) fun x_16 =>
            (Option.bind (intOf? .i64 (AMem.ld r_15.2 x10 2)) fun x_17 =>
            (if chkOk [(3, 1), (9, 7)] [(9, x10), (3, x10)] [(7, (r_12.2, r_15.2)), (1, (r_10.2, r_12.2))] = true
            then (if (x_16 != x_17) = true
              then some (.bool false, r_15.2)
              else P5_78 L x1 x1n x1c x2 x3 x9 x10 x12 r_15.2)
            else none)))))))))
      else none)))))))))))
    else (Option.bind (L.call 30 [.pointer x9] M) fun r_18 =>
      (Option.bind (intOf? .i64 (some r_18.1)) fun x_19 =>
      (Option.bind (intOf? .i64 (AMem.ld r_18.2 x10 1)) fun x_20 =>
      (if (x_19 != x_20) = true
      then (if chkOk [(3, 1), (9, 7)] [(3, x10)] [(7, (r_18.2, r_18.2)), (1, (M, r_18.2))] = true
        then some (.bool false, r_18.2)
        else none)
      else (Option.bind (L.call 31 [.pointer x9] r_18.2) fun r_21 =>
        (Option.bind (intOf? .i64 (some r_21.1)) fun x_22 =>
        (Option.bind (intOf? .i64 (AMem.ld r_21.2 x10 2)) fun x_23 =>
        (if chkOk [(3, 1), (9, 7)] [(9, x10), (3, x10)] [(7, (r_18.2, r_21.2)), (1, (M, r_18.2))] = true
        then (if (x_22 != x_23) = true
          then some (.bool false, r_21.2)
          else P5_78 L x1 x1n x1c x2 x3 x9 x10 x12 r_21.2)
        else none)))))))))) := QP5_63_eq L P5_63 (Classical.choose_spec XP5_63) P5_78 (Classical.choose_spec XP5_78) x1 x1n x1c x2 x3 x9 x10 x12 x13 M
theorem G5_79 (L : Rec) (x2 : Int) (x3 : Int) (x9 : Option Addr) (x10 : Nat) (M : AMem) : code L (.seq (.ops o5_80) (.seq (.ops o5_82) (.seq (.ops o5_84) (.seq (.ops o5_86) (.seq (.seq (.ops o5_89) (.cond (.tmp 172) (.seq (.ops o5_92) (.ret)) (.skip))) (.seq (.draw [] 0 o5_96 [(3, 1), (10, 8)]) (.ret))))))) (retK [.tmp 8]) [junk, junk, .int .i64 x2, .int .i64 x3, junk, junk, junk, junk, junk, .pointer x9, .pointer (some ⟨x10, 0, none⟩), junk, junk, junk, junk, junk, junk, junk, junk, junk, junk, junk, junk, junk, junk, junk, junk, junk, junk, junk, junk, junk, junk, junk, junk, junk, junk, junk, junk, junk, junk, junk, junk, junk, junk, junk, junk, junk, junk, junk, junk, junk, junk, junk, junk, junk, junk, junk, junk, junk, junk, junk, junk, junk, junk, junk, junk, junk, junk, junk, junk, junk, junk, junk, junk, junk, junk, junk, junk, junk, junk, junk, junk, junk, junk, junk, junk, junk, junk, junk, junk, junk, junk, junk, junk, junk, junk, junk, junk, junk, junk, junk, junk, junk, junk, junk, junk, junk, junk, junk, junk, junk, junk, junk, junk, junk, junk, junk, junk, junk, junk, junk, junk, junk, junk, junk, junk, junk, junk, junk, junk, junk, junk, junk, junk, junk, junk, junk, junk, junk, junk, junk, junk, junk, junk, junk, junk, junk, junk, junk, junk, junk, junk, junk, junk, junk, junk, junk, junk, junk, junk, junk, junk, junk, junk, junk, junk, junk, junk, junk, junk, junk, junk, junk, junk, junk, junk, junk, junk, junk, junk, junk, junk, junk, junk, junk, junk, junk, junk, junk, junk, junk, junk, junk, junk, junk, junk, junk, junk] M =
  (Option.bind (L.call 27 [.pointer none, .int .i64 0] (M ++ [AObj.cells [.bool false, .slice none 0 0, .int .i64 0, .int .i64 0] ⟨false, 0⟩])) fun r_1 =>
    (Option.bind (tupOf? 2 r_1.1) fun cs_2 =>
    (Option.bind (cs_2[0]?) fun u_3 =>
    (Option.bind (intOf? .u64 (some u_3)) fun x_4 =>
    (Option.bind (cs_2[1]?) fun u_5 =>
    (Option.bind (boolOf? (some u_5)) fun q_6 =>
    (Option.bind (L.call 27 [.pointer (some ⟨(List.length M), 0, none⟩), .int .i64 0] r_1.2) fun r_7 =>
    (Option.bind (tupOf? 2 r_7.1) fun cs_8 =>
    (Option.bind (cs_8[0]?) fun u_9 =>
    (Option.bind (intOf? .u64 (some u_9)) fun x_10 =>
    (Option.bind (cs_8[1]?) fun u_11 =>
    (Option.bind (boolOf? (some u_11)) fun q_12 =>
    (if q_6 = true
    then some (.bool false, r_7.2)
    else (if q_12 = true
      then some (.bool false, r_7.2)
      else (Option.bind (L.call 28 [.pointer none, .int .i64 0, .int .u64 0, .int .u64 1] r_7.2) fun r_13 =>
        (Option.bind (boolOf? (some r_13.1)) fun q_14 =>
        (if q_14 = true
        then some (.bool false, r_13.2)
        else (Option.bind (L.call 28 [.pointer (some ⟨(List.length M), 0, none⟩), .int .i64 0, .int .u64 0, .int .u64 1] r_13.2) fun r_15 =>
          (Option.bind (boolOf? (some r_15.1)) fun q_16 =>
          (if q_16 = true
          then some (.bool false, r_15.2)
          else (Option.bind (L.call 32 [.pointer none] r_15.2) fun r_17 =>
            (Option.bind (intOf? .i64 (some r_17.1)) fun x_18 =>
            (Option.bind (L.call 32 [.pointer (some ⟨(List.length M), 0, none⟩)] r_17.2) fun r_19 =>
            (Option.bind (intOf? .i64 (some r_19.1)) fun x_20 =>
            (Option.bind (L.call 30 [.pointer none] r_19.2) fun r_21 =>
            (Option.bind (intOf? .i64 (some r_21.1)) fun x_22 =>
            (Option.bind (L.call 30 [.pointer (some ⟨(List.length M), 0, none⟩)] r_21.2) fun r_23 =>
            (Option.bind (intOf? .i64 (some r_23.1)) fun x_24 =>
            (Option.bind (L.call 31 [.pointer none] r_23.2) fun r_25 =>
            (Option.bind (intOf? .i64 (some r_25.1)) fun x_26 =>
            (Option.bind (L.call 31 [.pointer (some ⟨(List.length M), 0, none⟩)] r_25.2) fun r_27 =>
            (Option.bind (intOf? .i64 (some r_27.1)) fun x_28 =>
            (if ((IntKind.wrap .i64 ((IntKind.wrap .i64 ((IntKind.wrap .i64 ((IntKind.wrap .i64 ((IntKind.wrap .i64 (x_18 + x_20)) + x_22)) + x_24)) + x_26)) + x_28)) != 0) = true
            then some (.bool false, r_27.2)
            else (Option.bind (L.call 33 [.pointer none, .int .i64 0, .int .i64 1] r_27.2) fun r_29 =>
              (Option.bind (sliceOf? (some r_29.1)) fun s_30 =>
              (Option.bind (L.call 33 [.pointer (some ⟨(List.length M), 0, none⟩), .int .i64 0, .int .i64 1] r_29.2) fun r_31 =>
              (Option.bind (sliceOf? (some r_31.1)) fun s_32 =>
              (if ((IntKind.wrap .i64 ((Int.ofNat s_30.2.1) + (Int.ofNat s_32.2.1))) != 0) = true
              then some (.bool false, r_31.2)
              else (Option.bind (L.call 32 [.pointer x9] r_31.2) fun r_33 =>
                (Option.bind (intOf? .i64 (some r_33.1)) fun x_34 =>
                (Option.bind (sliceOf? (AMem.ld r_33.2 x10 0)) fun s_35 =>
                (if (x_34 == (Int.ofNat s_35.2.1)) = true
                then (Option.bind (L.call 33 [.pointer x9, .int .i64 0, .int .i64 100] r_33.2) fun r_36 =>
                  (Option.bind (sliceOf? (some r_36.1)) fun s_37 =>
                  (Option.bind (sliceOf? (AMem.ld r_36.2 x10 0)) fun s_38 =>
                  (Option.bind (L.call 34 [.slice s_37.1 s_37.2.1 s_37.2.2, .slice s_38.1 s_38.2.1 s_38.2.2] r_36.2) fun r_39 =>
                  (Option.bind (boolOf? (some r_39.1)) fun q_40 =>
                  (if q_40 = true
                  then (Option.bind (L.call 33 [.pointer x9, .int .i64 x2, .int .i64 x3] r_39.2) fun r_41 =>
                    (Option.bind (sliceOf? (some r_41.1)) fun s_42 =>
                    (Option.bind (L.call 35 [.pointer (some ⟨x10, 0, none⟩), .int .i64 x2, .int .i64 x3] r_41.2) fun r_43 =>
                    (Option.bind (sliceOf? (some r_43.1)) fun s_44 =>
                    (Option.bind (L.call 34 [.slice s_42.1 s_42.2.1 s_42.2.2, .slice s_44.1 s_44.2.1 s_44.2.2] r_43.2) fun r_45 =>
                    (Option.bind (boolOf? (some r_45.1)) fun q_46 =>
                    (if q_46 = true
                    then (Option.bind (L.call 23 [] []) fun r_47 =>
                      (Option.bind (boolOf? (some r_47.1)) fun q_48 =>
                      (if chkOk [(3, 1), (10, 8)] [(10, x10), (3, x10)] [(8, (r_33.2, r_36.2)), (1, (r_31.2, r_33.2))] = true
                      then some (.bool q_48, r_45.2)
                      else none)))
                    else (if chkOk [(3, 1), (10, 8)] [(10, x10), (3, x10)] [(8, (r_33.2, r_36.2)), (1, (r_31.2, r_33.2))] = true
                      then some (.bool false, r_45.2)
                      else none))))))))
                  else (if chkOk [(3, 1), (10, 8)] [(10, x10), (3, x10)] [(8, (r_33.2, r_36.2)), (1, (r_31.2, r_33.2))] = true
                    then some (.bool false, r_39.2)
                    else none)))))))
                else (if chkOk [(3, 1), (10, 8)] [(3, x10)] [(8, (r_33.2, r_33.2)), (1, (r_31.2, r_33.2))] = true
                  then some (.bool false, r_33.2)
                  else none))))))))))))))))))))))))))))))))))))))))))) := by kernel_rfl
theorem QP5_79_eq (L : Rec) (P5_79 : Rec → Int → Int → (Option Addr) → Nat → AMem → Res) (hP5_79 : P5_79 = fun (L : Rec) (x2 : Int) (x3 : Int) (x9 : Option Addr) (x10 : Nat) (M : AMem) => code L c5_79 (k5_79 L) (s5_79 x2 x3 x9 x10 M) M) (x2 : Int) (x3 : Int) (x9 : Option Addr) (x10 : Nat) (M : AMem) : P5_79 L x2 x3 x9 x10 M =
  (Option.bind (L.call 27 [.pointer none, .int .i64 0] (M ++ [AObj.cells [.bool false, .slice none 0 0, .int .i64 0, .int .i64 0] ⟨false, 0⟩])) fun r_1 =>
    (Option.bind (tupOf? 2 r_1.1) fun cs_2 =>
    (Option.bind (cs_2[0]?) fun u_3 =>
    (Option.bind (intOf? .u64 (some u_3)) fun x_4 =>
    (Option.bind (cs_2[1]?) fun u_5 =>
    (Option.bind (boolOf? (some u_5)) fun q_6 =>
    (Option.bind (L.call 27 [.pointer (some ⟨(List.length M), 0, none⟩), .int .i64 0] r_1.2) fun r_7 =>
    (Option.bind (tupOf? 2 r_7.1) fun cs_8 =>
    (Option.bind (cs_8[0]?) fun u_9 =>
    (Option.bind (intOf? .u64 (some u_9)) fun x_10 =>
    (Option.bind (cs_8[1]?) fun u_11 =>
    (Option.bind (boolOf? (some u_11)) fun q_12 =>
    (if q_6 = true
    then some (.bool false, r_7.2)
    else (if q_12 = true
      then some (.bool false, r_7.2)
      else (Option.bind (L.call 28 [.pointer none, .int .i64 0, .int .u64 0, .int .u64 1] r_7.2) fun r_13 =>
        (Option.bind (boolOf? (some r_13.1)) fun q_14 =>
        (if q_14 = true
        then some (.bool false, r_13.2)
        else (Option.bind (L.call 28 [.pointer (some ⟨(List.length M), 0, none⟩), .int .i64 0, .int .u64 0, .int .u64 1] r_13.2) fun r_15 =>
          (Option.bind (boolOf? (some r_15.1)) fun q_16 =>
          (if q_16 = true
          then some (.bool false, r_15.2)
          else (Option.bind (L.call 32 [.pointer none] r_15.2) fun r_17 =>
            (Option.bind (intOf? .i64 (some r_17.1)) fun x_18 =>
            (Option.bind (L.call 32 [.pointer (some ⟨(List.length M), 0, none⟩)] r_17.2) fun r_19 =>
            (Option.bind (intOf? .i64 (some r_19.1)) fun x_20 =>
            (Option.bind (L.call 30 [.pointer none] r_19.2) fun r_21 =>
            (Option.bind (intOf? .i64 (some r_21.1)) fun x_22 =>
            (Option.bind (L.call 30 [.pointer (some ⟨(List.length M), 0, none⟩)] r_21.2) fun r_23 =>
            (Option.bind (intOf? .i64 (some r_23.1)) fun x_24 =>
            (Option.bind (L.call 31 [.pointer none] r_23.2) fun r_25 =>
            (Option.bind (intOf? .i64 (some r_25.1)) fun x_26 =>
            (Option.bind (L.call 31 [.pointer (some ⟨(List.length M), 0, none⟩)] r_25.2) fun r_27 =>
            (Option.bind (intOf? .i64 (some r_27.1)) fun x_28 =>
            (if ((IntKind.wrap .i64 ((IntKind.wrap .i64 ((IntKind.wrap .i64 ((IntKind.wrap .i64 ((IntKind.wrap .i64 (x_18 + x_20)) + x_22)) + x_24)) + x_26)) + x_28)) != 0) = true
            then some (.bool false, r_27.2)
            else (Option.bind (L.call 33 [.pointer none, .int .i64 0, .int .i64 1] r_27.2) fun r_29 =>
              (Option.bind (sliceOf? (some r_29.1)) fun s_30 =>
              (Option.bind (L.call 33 [.pointer (some ⟨(List.length M), 0, none⟩), .int .i64 0, .int .i64 1] r_29.2) fun r_31 =>
              (Option.bind (sliceOf? (some r_31.1)) fun s_32 =>
              (if ((IntKind.wrap .i64 ((Int.ofNat s_30.2.1) + (Int.ofNat s_32.2.1))) != 0) = true
              then some (.bool false, r_31.2)
              else (Option.bind (L.call 32 [.pointer x9] r_31.2) fun r_33 =>
                (Option.bind (intOf? .i64 (some r_33.1)) fun x_34 =>
                (Option.bind (sliceOf? (AMem.ld r_33.2 x10 0)) fun s_35 =>
                (if (x_34 == (Int.ofNat s_35.2.1)) = true
                then (Option.bind (L.call 33 [.pointer x9, .int .i64 0, .int .i64 100] r_33.2) fun r_36 =>
                  (Option.bind (sliceOf? (some r_36.1)) fun s_37 =>
                  (Option.bind (sliceOf? (AMem.ld r_36.2 x10 0)) fun s_38 =>
                  (Option.bind (L.call 34 [.slice s_37.1 s_37.2.1 s_37.2.2, .slice s_38.1 s_38.2.1 s_38.2.2] r_36.2) fun r_39 =>
                  (Option.bind (boolOf? (some r_39.1)) fun q_40 =>
                  (if q_40 = true
                  then (Option.bind (L.call 33 [.pointer x9, .int .i64 x2, .int .i64 x3] r_39.2) fun r_41 =>
                    (Option.bind (sliceOf? (some r_41.1)) fun s_42 =>
                    (Option.bind (L.call 35 [.pointer (some ⟨x10, 0, none⟩), .int .i64 x2, .int .i64 x3] r_41.2) fun r_43 =>
                    (Option.bind (sliceOf? (some r_43.1)) fun s_44 =>
                    (Option.bind (L.call 34 [.slice s_42.1 s_42.2.1 s_42.2.2, .slice s_44.1 s_44.2.1 s_44.2.2] r_43.2) fun r_45 =>
                    (Option.bind (boolOf? (some r_45.1)) fun q_46 =>
                    (if q_46 = true
                    then (Option.bind (L.call 23 [] []) fun r_47 =>
                      (Option.bind (boolOf? (some r_47.1)) fun q_48 =>
                      (if chkOk [(3, 1), (10, 8)] [(10, x10), (3, x10)] [(8, (r_33.2, r_36.2)), (1, (r_31.2, r_33.2))] = true
                      then some (.bool q_48, r_45.2)
                      else none)))
                    else (if chkOk [(3, 1), (10, 8)] [(10, x10), (3, x10)] [(8, (r_33.2, r_36.2)), (1, (r_31.2, r_33.2))] = true
                      then some (.bool false, r_45.2)
                      else none))))))))
                  else (if chkOk [(3, 1), (10, 8)] [(10, x10), (3, x10)] [(8, (r_33.2, r_36.2)), (1, (r_31.2, r_33.2))] = true
                    then some (.bool false, r_39.2)
                    else none)))))))
                else (if chkOk [(3, 1), (10, 8)] [(3, x10)] [(8, (r_33.2, r_33.2)), (1, (r_31.2, r_33.2))] = true
                  then some (.bool false, r_33.2)
                  else none))))))))))))))))))))))))))))))))))))))))))) := by
  subst hP5_79; exact Eq.mp (by kernel_rfl) (G5_79 L  x2 x3 x9 x10 M)
theorem P5_79_eq (L : Rec) (x2 : Int) (x3 : Int) (x9 : Option Addr) (x10 : Nat) (M : AMem) : P5_79 L x2 x3 x9 x10 M =
  (Option.bind (L.call 27 [.pointer none, .int .i64 0] (M ++ [AObj.cells [.bool false, .slice none 0 0, .int .i64 0, .int .i64 0] ⟨false, 0⟩])) fun r_1 =>
    (Option.bind (tupOf? 2 r_1.1) fun cs_2 =>
    (Option.bind (cs_2[0]?) fun u_3 =>
    (Option.bind (intOf? .u64 (some u_3)) fun x_4 =>
    (Option.bind (cs_2[1]?) fun u_5 =>
    (Option.bind (boolOf? (some u_5)) fun q_6 =>
    (Option.bind (L.call 27 [.pointer (some ⟨(List.length M), 0, none⟩), .int .i64 0] r_1.2) fun r_7 =>
    (Option.bind (tupOf? 2 r_7.1) fun cs_8 =>
    (Option.bind (cs_8[0]?) fun u_9 =>
    (Option.bind (intOf? .u64 (some u_9)) fun x_10 =>
    (Option.bind (cs_8[1]?) fun u_11 =>
    (Option.bind (boolOf? (some u_11)) fun q_12 =>
    (if q_6 = true
    then some (.bool false, r_7.2)
    else (if q_12 = true
      then some (.bool false, r_7.2)
      else (Option.bind (L.call 28 [.pointer none, .int .i64 0, .int .u64 0, .int .u64 1] r_7.2) fun r_13 =>
        (Option.bind (boolOf? (some r_13.1)) fun q_14 =>
        (if q_14 = true
        then some (.bool false, r_13.2)
        else (Option.bind (L.call 28 [.pointer (some ⟨(List.length M), 0, none⟩), .int .i64 0, .int .u64 0, .int .u64 1] r_13.2) fun r_15 =>
          (Option.bind (boolOf? (some r_15.1)) fun q_16 =>
          (if q_16 = true
          then some (.bool false, r_15.2)
          else (Option.bind (L.call 32 [.pointer none] r_15.2) fun r_17 =>
            (Option.bind (intOf? .i64 (some r_17.1)) fun x_18 =>
            (Option.bind (L.call 32 [.pointer (some ⟨(List.length M), 0, none⟩)] r_17.2) fun r_19 =>
            (Option.bind (intOf? .i64 (some r_19.1)) fun x_20 =>
            (Option.bind (L.call 30 [.pointer none] r_19.2) fun r_21 =>
            (Option.bind (intOf? .i64 (some r_21.1)) fun x_22 =>
            (Option.bind (L.call 30 [.pointer (some ⟨(List.length M), 0, none⟩)] r_21.2) fun r_23 =>
            (Option.bind (intOf? .i64 (some r_23.1)) fun x_24 =>
            (Option.bind (L.call 31 [.pointer none] r_23.2) fun r_25 =>
            (Option.bind (intOf? .i64 (some r_25.1)) fun x_26 =>
            (Option.bind (L.call 31 [.pointer (some ⟨(List.length M), 0, none⟩)] r_25.2) fun r_27 =>
            (Option.bind (intOf? .i64 (some r_27.1)) fun x_28 =>
            (if ((IntKind.wrap .i64 ((IntKind.wrap .i64 ((IntKind.wrap .i64 ((IntKind.wrap .i64 ((IntKind.wrap .i64 (x_18 + x_20)) + x_22)) + x_24)) + x_26)) + x_28)) != 0) = true
            then some (.bool false, r_27.2)
            else (Option.bind (L.call 33 [.pointer none, .int .i64 0, .int .i64 1] r_27.2) fun r_29 =>
              (Option.bind (sliceOf? (some r_29.1)) fun s_30 =>
              (Option.bind (L.call 33 [.pointer (some ⟨(List.length M), 0, none⟩), .int .i64 0, .int .i64 1] r_29.2) fun r_31 =>
              (Option.bind (sliceOf? (some r_31.1)) fun s_32 =>
              (if ((IntKind.wrap .i64 ((Int.ofNat s_30.2.1) + (Int.ofNat s_32.2.1))) != 0) = true
              then some (.bool false, r_31.2)
              else (Option.bind (L.call 32 [.pointer x9] r_31.2) fun r_33 =>
                (Option.bind (intOf? .i64 (some r_33.1)) fun x_34 =>
                (Option.bind (sliceOf? (AMem.ld r_33.2 x10 0)) fun s_35 =>
                (if (x_34 == (Int.ofNat s_35.2.1)) = true
                then (Option.bind (L.call 33 [.pointer x9, .int .i64 0, .int .i64 100] r_33.2) fun r_36 =>
                  (Option.bind (sliceOf? (some r_36.1)) fun s_37 =>
                  (Option.bind (sliceOf? (AMem.ld r_36.2 x10 0)) fun s_38 =>
                  (Option.bind (L.call 34 [.slice s_37.1 s_37.2.1 s_37.2.2, .slice s_38.1 s_38.2.1 s_38.2.2] r_36.2) fun r_39 =>
                  (Option.bind (boolOf? (some r_39.1)) fun q_40 =>
                  (if q_40 = true
                  then (Option.bind (L.call 33 [.pointer x9, .int .i64 x2, .int .i64 x3] r_39.2) fun r_41 =>
                    (Option.bind (sliceOf? (some r_41.1)) fun s_42 =>
                    (Option.bind (L.call 35 [.pointer (some ⟨x10, 0, none⟩), .int .i64 x2, .int .i64 x3] r_41.2) fun r_43 =>
                    (Option.bind (sliceOf? (some r_43.1)) fun s_44 =>
                    (Option.bind (L.call 34 [.slice s_42.1 s_42.2.1 s_42.2.2, .slice s_44.1 s_44.2.1 s_44.2.2] r_43.2) fun r_45 =>
                    (Option.bind (boolOf? (some r_45.1)) fun q_46 =>
                    (if q_46 = true
                    then (Option.bind (L.call 23 [] []) fun r_47 =>
                      (Option.bind (boolOf? (some r_47.1)) fun q_48 =>
                      (if chkOk [(3, 1), (10, 8)] [(10, x10), (3, x10)] [(8, (r_33.2, r_36.2)), (1, (r_31.2, r_33.2))] = true
                      then some (.bool q_48, r_45.2)
                      else none)))
                    else (if chkOk [(3, 1), (10, 8)] [(10, x10), (3, x10)] [(8, (r_33.2, r_36.2)), (1, (r_31.2, r_33.2))] = true
                      then some (.bool false, r_45.2)
                      else none))))))))
                  else (if chkOk [(3, 1), (10, 8)] [(10, x10), (3, x10)] [(8, (r_33.2, r_36.2)), (1, (r_31.2, r_33.2))] = true
                    then some (.bool false, r_39.2)
                    else none)))))))
                else (if chkOk [(3, 1), (10, 8)] [(3, x10)] [(8, (r_33.2, r_33.2)), (1, (r_31.2, r_33.2))] = true
                  then some (.bool false, r_33.2)
                  else none))))))))))))))))))))))))))))))))))))))))))) := QP5_79_eq L P5_79 (Classical.choose_spec XP5_79) x2 x3 x9 x10 M
theorem G5_78 (L : Rec) (b5_34 c5_79 : ACode) (x1 : Option Addr) (x1n : Nat) (x1c : Nat) (x2 : Int) (x3 : Int) (x9 : Option Addr) (x10 : Nat) (x12 : Int) (M : AMem) : code L (.ops o5_78) (postK [0, 4, 5, 6, 7, 8, 11, 13, 14, 15, 16, 17, 18, 19, 20, 21, 22, 23, 24, 25, 26, 27, 28, 29, 30, 31, 32, 33, 34, 35, 36, 37, 38, 39, 40, 41, 42, 43, 44, 45, 46, 47, 48, 49, 50, 51, 52, 53, 54, 55, 56, 57, 58, 59, 60, 61, 62, 63, 64, 65, 66, 67, 68, 69, 70, 71, 72, 73, 74, 75, 76, 77, 78, 79, 80, 81, 82, 83, 84, 85, 86, 87, 88, 89, 90, 91, 92, 93, 94, 95, 96, 97, 98, 99, 100, 101, 102, 103, 104, 105, 106, 107, 108, 109, 110, 111, 112, 113, 114, 115, 116, 117, 118, 119, 120, 121, 122, 123, 124, 125, 126, 127, 128, 129, 130, 131, 132, 133, 134, 135, 136, 137, 138, 139, 140, 141, 142, 143, 144, 145, 146, 147, 148, 149, 150, 151, 152, 153, 154, 155, 156, 157, 158, 159, 160, 161, 162, 163, 164, 165, 166, 167, 168, 169, 170, 171, 172, 173, 174, 175, 176, 177, 178, 179, 180, 181, 182, 183, 184, 185, 186, 187, 188, 189, 190, 191, 192, 193, 194, 195, 196, 197, 198] (loopK L b5_34 (blockK 0 (seqK (code L (.clear [0, 1, 4, 5, 6, 7, 8, 11, 12, 13, 14, 15, 16, 17, 18, 19, 20, 21, 22, 23, 24, 25, 26, 27, 28, 29, 30, 31, 32, 33, 34, 35, 36, 37, 38, 39, 40, 41, 42, 43, 44, 45, 46, 47, 48, 49, 50, 51, 52, 53, 54, 55, 56, 57, 58, 59, 60, 61, 62, 63, 64, 65, 66, 67, 68, 69, 70, 71, 72, 73, 74, 75, 76, 77, 78, 79, 80, 81, 82, 83, 84, 85, 86, 87, 88, 89, 90, 91, 92, 93, 94, 95, 96, 97, 98, 99, 100, 101, 102, 103, 104, 105, 106, 107, 108, 109, 110, 111, 112, 113, 114, 115, 116, 117, 118, 119, 120, 121, 122, 123, 124, 125, 126, 127, 128, 129, 130, 131, 132, 133, 134, 135, 136, 137, 138, 139, 140, 141, 142, 143, 144, 145, 146, 147, 148, 149, 150, 151, 152, 153, 154, 155, 156, 157, 158, 159, 160, 161, 162, 163, 164, 165, 166, 167, 168, 169, 170, 171, 172, 173, 174, 175, 176, 177, 178, 179, 180, 181, 182, 183, 184, 185, 186, 187, 188, 189, 190, 191, 192, 193, 194, 195, 196, 197, 198] c5_79) (retK [.tmp 8])) (retK [.tmp 8]))))) [junk, .slice x1 x1n x1c, .int .i64 x2, .int .i64 x3, junk, junk, junk, junk, junk, .pointer x9, .pointer (some ⟨x10, 0, none⟩), junk, .int .i64 x12, junk, junk, junk, junk, junk, junk, junk, junk, junk, junk, junk, junk, junk, junk, junk, junk, junk, junk, junk, junk, junk, junk, junk, junk, junk, junk, junk, junk, junk, junk, junk, junk, junk, junk, junk, junk, junk, junk, junk, junk, junk, junk, junk, junk, junk, junk, junk, junk, junk, junk, junk, junk, junk, junk, junk, junk, junk, junk, junk, junk, junk, junk, junk, junk, junk, junk, junk, junk, junk, junk, junk, junk, junk, junk, junk, junk, junk, junk, junk, junk, junk, junk, junk, junk, junk, junk, junk, junk, junk, junk, junk, junk, junk, junk, junk, junk, junk, junk, junk, junk, junk, junk, junk, junk, junk, junk, junk, junk, junk, junk, junk, junk, junk, junk, junk, junk, junk, junk, junk, junk, junk, junk, junk, junk, junk, junk, junk, junk, junk, junk, junk, junk, junk, junk, junk, junk, junk, junk, junk, junk, junk, junk, junk, junk, junk, junk, junk, junk, junk, junk, junk, junk, junk, junk, junk, junk, junk, junk, junk, junk, junk, junk, junk, junk, junk, junk, junk, junk, junk, junk, junk, junk, junk, junk, junk, junk, junk, junk, junk, junk, junk, junk, junk, junk, junk, junk] M =
  L.loop b5_34 (blockK 0 (seqK (code L (.clear [0, 1, 4, 5, 6, 7, 8, 11, 12, 13, 14, 15, 16, 17, 18, 19, 20, 21, 22, 23, 24, 25, 26, 27, 28, 29, 30, 31, 32, 33, 34, 35, 36, 37, 38, 39, 40, 41, 42, 43, 44, 45, 46, 47, 48, 49, 50, 51, 52, 53, 54, 55, 56, 57, 58, 59, 60, 61, 62, 63, 64, 65, 66, 67, 68, 69, 70, 71, 72, 73, 74, 75, 76, 77, 78, 79, 80, 81, 82, 83, 84, 85, 86, 87, 88, 89, 90, 91, 92, 93, 94, 95, 96, 97, 98, 99, 100, 101, 102, 103, 104, 105, 106, 107, 108, 109, 110, 111, 112, 113, 114, 115, 116, 117, 118, 119, 120, 121, 122, 123, 124, 125, 126, 127, 128, 129, 130, 131, 132, 133, 134, 135, 136, 137, 138, 139, 140, 141, 142, 143, 144, 145, 146, 147, 148, 149, 150, 151, 152, 153, 154, 155, 156, 157, 158, 159, 160, 161, 162, 163, 164, 165, 166, 167, 168, 169, 170, 171, 172, 173, 174, 175, 176, 177, 178, 179, 180, 181, 182, 183, 184, 185, 186, 187, 188, 189, 190, 191, 192, 193, 194, 195, 196, 197, 198] c5_79) (retK [.tmp 8])) (retK [.tmp 8]))) [junk, .slice x1 x1n x1c, .int .i64 x2, .int .i64 x3, junk, junk, junk, junk, junk, .pointer x9, .pointer (some ⟨x10, 0, none⟩), junk, .int .i64 (IntKind.wrap .i64 (x12 + 1)), junk, junk, junk, junk, junk, junk, junk, junk, junk, junk, junk, junk, junk, junk, junk, junk, junk, junk, junk, junk, junk, junk, junk, junk, junk, junk, junk, junk, junk, junk, junk, junk, junk, junk, junk, junk, junk, junk, junk, junk, junk, junk, junk, junk, junk, junk, junk, junk, junk, junk, junk, junk, junk, junk, junk, junk, junk, junk, junk, junk, junk, junk, junk, junk, junk, junk, junk, junk, junk, junk, junk, junk, junk, junk, junk, junk, junk, junk, junk, junk, junk, junk, junk, junk, junk, junk, junk, junk, junk, junk, junk, junk, junk, junk, junk, junk, junk, junk, junk, junk, junk, junk, junk, junk, junk, junk, junk, junk, junk, junk, junk, junk, junk, junk, junk, junk, junk, junk, junk, junk, junk, junk, junk, junk, junk, junk, junk, junk, junk, junk, junk, junk, junk, junk, junk, junk, junk, junk, junk, junk, junk, junk, junk, junk, junk, junk, junk, junk, junk, junk, junk, junk, junk, junk, junk, junk, junk, junk, junk, junk, junk, junk, junk, junk, junk, junk, junk, junk, junk, junk, junk, junk, junk, junk, junk, junk, junk, junk, junk, junk, junk, junk, junk, junk, junk, junk] M := by kernel_rfl
theorem QP5_78_eq (L : Rec) (P5_34 : Rec → (Option Addr) → Nat → Nat → Int → Int → (Option Addr) → Nat → Int → AMem → Res) (hP5_34 : P5_34 = fun (L : Rec) (x1 : Option Addr) (x1n : Nat) (x1c : Nat) (x2 : Int) (x3 : Int) (x9 : Option Addr) (x10 : Nat) (x12 : Int) (M : AMem) => L.loop b5_34 (k5_34 L) (s5_34 x1 x1n x1c x2 x3 x9 x10 x12 M) M) (P5_78 : Rec → (Option Addr) → Nat → Nat → Int → Int → (Option Addr) → Nat → Int → AMem → Res) (hP5_78 : P5_78 = fun (L : Rec) (x1 : Option Addr) (x1n : Nat) (x1c : Nat) (x2 : Int) (x3 : Int) (x9 : Option Addr) (x10 : Nat) (x12 : Int) (M : AMem) => code L c5_78 (k5_78 L) (s5_78 x1 x1n x1c x2 x3 x9 x10 x12 M) M) (x1 : Option Addr) (x1n : Nat) (x1c : Nat) (x2 : Int) (x3 : Int) (x9 : Option Addr) (x10 : Nat) (x12 : Int) (M : AMem) : P5_78 L x1 x1n x1c x2 x3 x9 x10 x12 M =
  P5_34 L x1 x1n x1c x2 x3 x9 x10 (IntKind.wrap .i64 (x12 + 1)) M := by
  subst hP5_34; subst hP5_78; exact Eq.mp (by kernel_rfl) (G5_78 L b5_34 c5_79 x1 x1n x1c x2 x3 x9 x10 x12 M)
theorem P5_78_eq (L : Rec) (x1 : Option Addr) (x1n : Nat) (x1c : Nat) (x2 : Int) (x3 : Int) (x9 : Option Addr) (x10 : Nat) (x12 : Int) (M : AMem) : P5_78 L x1 x1n x1c x2 x3 x9 x10 x12 M =
  P5_34 L x1 x1n x1c x2 x3 x9 x10 (IntKind.wrap .i64 (x12 + 1)) M := QP5_78_eq L P5_34 (Classical.choose_spec XP5_34) P5_78 (Classical.choose_spec XP5_78) x1 x1n x1c x2 x3 x9 x10 x12 M
theorem GE5 (L : Rec) (b5_34 c5_79 : ACode) (x0 : Int) (x1 : Option Addr) (x1n : Nat) (x1c : Nat) (x2 : Int) (x3 : Int) (M : AMem) : enterF L ⟨199, [.tmp 8], .seq (.ops o5_1) (.seq (.seq (.ops o5_4) (.cond (.tmp 34) (.seq (.ops o5_7) (.ret)) (.skip))) (.seq (.ops o5_11) (.seq (.ops o5_13) (.seq (.seq (.ops o5_16) (.cond (.tmp 46) (.seq (.ops o5_19) (.ret)) (.skip))) (.seq (.seq (.ops o5_24) (.cond (.tmp 48) (.seq (.ops o5_27) (.ret)) (.skip))) (.seq (.seq (.ops o5_32) (.block 0 (.clear [0, 4, 5, 6, 7, 8, 11, 13, 14, 15, 16, 17, 18, 19, 20, 21, 22, 23, 24, 25, 26, 27, 28, 29, 30, 31, 32, 33, 34, 35, 36, 37, 38, 39, 40, 41, 42, 43, 44, 45, 46, 47, 48, 49, 50, 51, 52, 53, 54, 55, 56, 57, 58, 59, 60, 61, 62, 63, 64, 65, 66, 67, 68, 69, 70, 71, 72, 73, 74, 75, 76, 77, 78, 79, 80, 81, 82, 83, 84, 85, 86, 87, 88, 89, 90, 91, 92, 93, 94, 95, 96, 97, 98, 99, 100, 101, 102, 103, 104, 105, 106, 107, 108, 109, 110, 111, 112, 113, 114, 115, 116, 117, 118, 119, 120, 121, 122, 123, 124, 125, 126, 127, 128, 129, 130, 131, 132, 133, 134, 135, 136, 137, 138, 139, 140, 141, 142, 143, 144, 145, 146, 147, 148, 149, 150, 151, 152, 153, 154, 155, 156, 157, 158, 159, 160, 161, 162, 163, 164, 165, 166, 167, 168, 169, 170, 171, 172, 173, 174, 175, 176, 177, 178, 179, 180, 181, 182, 183, 184, 185, 186, 187, 188, 189, 190, 191, 192, 193, 194, 195, 196, 197, 198] (.loop b5_34)))) (.clear [0, 1, 4, 5, 6, 7, 8, 11, 12, 13, 14, 15, 16, 17, 18, 19, 20, 21, 22, 23, 24, 25, 26, 27, 28, 29, 30, 31, 32, 33, 34, 35, 36, 37, 38, 39, 40, 41, 42, 43, 44, 45, 46, 47, 48, 49, 50, 51, 52, 53, 54, 55, 56, 57, 58, 59, 60, 61, 62, 63, 64, 65, 66, 67, 68, 69, 70, 71, 72, 73, 74, 75, 76, 77, 78, 79, 80, 81, 82, 83, 84, 85, 86, 87, 88, 89, 90, 91, 92, 93, 94, 95, 96, 97, 98, 99, 100, 101, 102, 103, 104, 105, 106, 107, 108, 109, 110, 111, 112, 113, 114, 115, 116, 117, 118, 119, 120, 121, 122, 123, 124, 125, 126, 127, 128, 129, 130, 131, 132, 133, 134, 135, 136, 137, 138, 139, 140, 141, 142, 143, 144, 145, 146, 147, 148, 149, 150, 151, 152, 153, 154, 155, 156, 157, 158, 159, 160, 161, 162, 163, 164, 165, 166, 167, 168, 169, 170, 171, 172, 173, 174, 175, 176, 177, 178, 179, 180, 181, 182, 183, 184, 185, 186, 187, 188, 189, 190, 191, 192, 193, 194, 195, 196, 197, 198] c5_79)))))))⟩ [.int .i64 x0, .slice x1 x1n x1c, .int .i64 x2, .int .i64 x3] M =
  (if (decide (x0 > 40)) = true
    then (if (decide (x0 ≤ 262144)) = true
      then (Option.bind (L.call 23 [] []) fun r_1 =>
        (Option.bind (boolOf? (some r_1.1)) fun q_2 =>
        some (.bool q_2, M)))
      else (if (decide ((Int.ofNat x1n) > 60)) = true
        then (Option.bind (L.call 23 [] []) fun r_3 =>
          (Option.bind (boolOf? (some r_3.1)) fun q_4 =>
          some (.bool q_4, M)))
        else (Option.bind (L.call 24 [.int .i64 x0] M) fun r_5 =>
          (Option.bind (ptrOf? (some r_5.1)) fun p_6 =>
          (Option.bind (L.call 25 [.int .i64 x0] r_5.2) fun r_7 =>
          (Option.bind (tupOf? 2 r_7.1) fun cs_8 =>
          (Option.bind (cs_8[0]?) fun u_9 =>
          (Option.bind (aggOf? 3 u_9) fun cs_10 =>
          (Option.bind (sliceOf? (cs_10[0]?)) fun s_11 =>
          (Option.bind (intOf? .i64 (cs_10[1]?)) fun x_12 =>
          (Option.bind (intOf? .i64 (cs_10[2]?)) fun x_13 =>
          (Option.bind (cs_8[1]?) fun u_14 =>
          (Option.bind (boolOf? (some u_14)) fun q_15 =>
          (Option.bind (AMem.wr (r_7.2 ++ [AObj.cells [.slice none 0 0, .int .i64 0, .int .i64 0] ⟨false, 0⟩]) (List.length r_7.2) 0 [.slice s_11.1 s_11.2.1 s_11.2.2, .int .i64 x_12, .int .i64 x_13]) fun M_16 =>
          (if (!((!(Option.isNone p_6)) == q_15)) = true
          then some (.bool false, M_16)
          else (if (!q_15) = true
            then (Option.bind (L.call 23 [] []) fun r_17 =>
              (Option.bind (boolOf? (some r_17.1)) fun q_18 =>
              some (.bool q_18, M_16)))
            else L.loop b5_34 (blockK 0 (seqK (code L (.clear [0, 1, 4, 5, 6, 7, 8, 11, 12, 13, 14, 15, 16, 17, 18, 19, 20, 21, 22, 23, 24, 25, 26, 27, 28, 29, 30, 31, 32, 33, 34, 35, 36, 37, 38, 39, 40, 41, 42, 43, 44, 45, 46, 47, 48, 49, 50, 51, 52, 53, 54, 55, 56, 57, 58, 59, 60, 61, 62, 63, 64, 65, 66, 67, 68, 69, 70, 71, 72, 73, 74, 75, 76, 77, 78, 79, 80, 81, 82, 83, 84, 85, 86, 87, 88, 89, 90, 91, 92, 93, 94, 95, 96, 97, 98, 99, 100, 101, 102, 103, 104, 105, 106, 107, 108, 109, 110, 111, 112, 113, 114, 115, 116, 117, 118, 119, 120, 121, 122, 123, 124, 125, 126, 127, 128, 129, 130, 131, 132, 133, 134, 135, 136, 137, 138, 139, 140, 141, 142, 143, 144, 145, 146, 147, 148, 149, 150, 151, 152, 153, 154, 155, 156, 157, 158, 159, 160, 161, 162, 163, 164, 165, 166, 167, 168, 169, 170, 171, 172, 173, 174, 175, 176, 177, 178, 179, 180, 181, 182, 183, 184, 185, 186, 187, 188, 189, 190, 191, 192, 193, 194, 195, 196, 197, 198] c5_79) (retK [.tmp 8])) (retK [.tmp 8]))) [junk, .slice x1 x1n x1c, .int .i64 x2, .int .i64 x3, junk, junk, junk, junk, junk, .pointer p_6, .pointer (some ⟨(List.length r_7.2), 0, none⟩), junk, .int .i64 0, junk, junk, junk, junk, junk, junk, junk, junk, junk, junk, junk, junk, junk, junk, junk, junk, junk, junk, junk, junk, junk, junk, junk, junk, junk, junk, junk, junk, junk, junk, junk, junk, junk, junk, junk, junk, junk, junk, junk, junk, junk, junk, junk, junk, junk, junk, junk, junk, junk, junk, junk, junk, junk, junk, junk, junk, junk, junk, junk, junk, junk, junk, junk, junk, junk, junk, junk, junk, junk, junk, junk, junk, junk, junk, junk, junk, junk, junk, junk, junk, junk, junk, junk, junk, junk, junk, junk, junk, junk, junk, junk, junk, junk, junk, junk, junk, junk, junk, junk, junk, junk, junk, junk, junk, junk, junk, junk, junk, junk, junk, junk, junk, junk, junk, junk, junk, junk, junk, junk, junk, junk, junk, junk, junk, junk, junk, junk, junk, junk, junk, junk, junk, junk, junk, junk, junk, junk, junk, junk, junk, junk, junk, junk, junk, junk, junk, junk, junk, junk, junk, junk, junk, junk, junk, junk, junk, junk, junk, junk, junk, junk, junk, junk, junk, junk, junk, junk, junk, junk, junk, junk, junk, junk, junk, junk, junk, junk, junk, junk, junk, junk, junk, junk, junk, junk, junk] M_16))))))))))))))))
    else (if (decide ((Int.ofNat x1n) > 60)) = true
      then (Option.bind (L.call 23 [] []) fun r_19 =>
        (Option.bind (boolOf? (some r_19.1)) fun q_20 =>
        some (.bool q_20, M)))
      else (Option.bind (L.call 24 [.int .i64 x0] M) fun r_21 =>
        (Option.bind (ptrOf? (some r_21.1)) fun p_22 =>
        (Option.bind (L.call 25 [.int .i64 x0] r_21.2) fun r_23 =>
        (Option.bind (tupOf? 2 r_23.1) fun cs_24 =>
        (Option.bind (cs_24[0]?) fun u_25 =>
        (Option.bind (aggOf? 3 u_25) fun cs_26 =>
        (Option.bind (sliceOf? (cs_26[0]?)) fun s_27 =>
        (Option.bind (intOf? .i64 (cs_26[1]?)) fun x_28 =>
        (Option.bind (intOf? .i64 (cs_26[2]?)) fun x_29 =>
        (Option.bind (cs_24[1]?) fun u_30 =>
        (Option.bind (boolOf? (some u_30)) fun q_31 =>
        (Option.bind (AMem.wr (r_23.2 ++ [AObj.cells [.slice none 0 0, .int .i64 0, .int .i64 0] ⟨false, 0⟩]) (List.length r_23.2) 0 [.slice s_27.1 s_27.2.1 s_27.2.2, .int .i64 x_28, .int .i64 x_29]) fun M_32 =>
        (if (!((!(Option.isNone p_22)) == q_31)) = true
        then some (.bool false, M_32)
        else (if (!q_31) = true
          then (Option.bind (L.call 23 [] []) fun r_33 =>
            (Option.bind (boolOf? (some r_33.1)) fun q_34 =>
            some (.bool q_34, M_32)))
          else L.loop b5_34 (blockK 0 (seqK (code L (.clear [0, 1, 4, 5, 6, 7, 8, 11, 12, 13, 14, 15, 16, 17, 18, 19, 20, 21, 22, 23, 24, 25, 26, 27, 28, 29, 30, 31, 32, 33, 34, 35, 36, 37, 38, 39, 40, 41, 42, 43, 44, 45, 46, 47, 48, 49, 50, 51, 52, 53, 54, 55, 56, 57, 58, 59, 60, 61, 62, 63, 64, 65, 66, 67, 68, 69, 70, 71, 72, 73, 74, 75, 76, 77, 78, 79, 80, 81, 82, 83, 84, 85, 86, 87, 88, 89, 90, 91, 92, 93, 94, 95, 96, 97, 98, 99, 100, 101, 102, 103, 104, 105, 106, 107, 108, 109, 110, 111, 112, 113, 114, 115, 116, 117, 118, 119, 120, 121, 122, 123, 124, 125, 126, 127, 128, 129, 130, 131, 132, 133, 134, 135, 136, 137, 138, 139, 140, 141, 142, 143, 144, 145, 146, 147, 148, 149, 150, 151, 152, 153, 154, 155, 156, 157, 158, 159, 160, 161, 162, 163, 164, 165, 166, 167, 168, 169, 170, 171, 172, 173, 174, 175, 176, 177, 178, 179, 180, 181, 182, 183, 184, 185, 186, 187, 188, 189, 190, 191, 192, 193, 194, 195, 196, 197, 198] c5_79) (retK [.tmp 8])) (retK [.tmp 8]))) [junk, .slice x1 x1n x1c, .int .i64 x2, .int .i64 x3, junk, junk, junk, junk, junk, .pointer p_22, .pointer (some ⟨(List.length r_23.2), 0, none⟩), junk, .int .i64 0, junk, junk, junk, junk, junk, junk, junk, junk, junk, junk, junk, junk, junk, junk, junk, junk, junk, junk, junk, junk, junk, junk, junk, junk, junk, junk, junk, junk, junk, junk, junk, junk, junk, junk, junk, junk, junk, junk, junk, junk, junk, junk, junk, junk, junk, junk, junk, junk, junk, junk, junk, junk, junk, junk, junk, junk, junk, junk, junk, junk, junk, junk, junk, junk, junk, junk, junk, junk, junk, junk, junk, junk, junk, junk, junk, junk, junk, junk, junk, junk, junk, junk, junk, junk, junk, junk, junk, junk, junk, junk, junk, junk, junk, junk, junk, junk, junk, junk, junk, junk, junk, junk, junk, junk, junk, junk, junk, junk, junk, junk, junk, junk, junk, junk, junk, junk, junk, junk, junk, junk, junk, junk, junk, junk, junk, junk, junk, junk, junk, junk, junk, junk, junk, junk, junk, junk, junk, junk, junk, junk, junk, junk, junk, junk, junk, junk, junk, junk, junk, junk, junk, junk, junk, junk, junk, junk, junk, junk, junk, junk, junk, junk, junk, junk, junk, junk, junk, junk, junk, junk, junk, junk, junk, junk, junk, junk, junk, junk, junk, junk, junk, junk, junk, junk, junk, junk] M_32)))))))))))))))) := by kernel_rfl
theorem QE5 (L : Rec) (P5_34 : Rec → (Option Addr) → Nat → Nat → Int → Int → (Option Addr) → Nat → Int → AMem → Res) (hP5_34 : P5_34 = fun (L : Rec) (x1 : Option Addr) (x1n : Nat) (x1c : Nat) (x2 : Int) (x3 : Int) (x9 : Option Addr) (x10 : Nat) (x12 : Int) (M : AMem) => L.loop b5_34 (k5_34 L) (s5_34 x1 x1n x1c x2 x3 x9 x10 x12 M) M) (x0 : Int) (x1 : Option Addr) (x1n : Nat) (x1c : Nat) (x2 : Int) (x3 : Int) (M : AMem) : enterF L a5 [.int .i64 x0, .slice x1 x1n x1c, .int .i64 x2, .int .i64 x3] M =
  (if (decide (x0 > 40)) = true
    then (if (decide (x0 ≤ 262144)) = true
      then (Option.bind (L.call 23 [] []) fun r_1 =>
        (Option.bind (boolOf? (some r_1.1)) fun q_2 =>
        some (.bool q_2, M)))
      else (if (decide ((Int.ofNat x1n) > 60)) = true
        then (Option.bind (L.call 23 [] []) fun r_3 =>
          (Option.bind (boolOf? (some r_3.1)) fun q_4 =>
          some (.bool q_4, M)))
        else (Option.bind (L.call 24 [.int .i64 x0] M) fun r_5 =>
          (Option.bind (ptrOf? (some r_5.1)) fun p_6 =>
          (Option.bind (L.call 25 [.int .i64 x0] r_5.2) fun r_7 =>
          (Option.bind (tupOf? 2 r_7.1) fun cs_8 =>
          (Option.bind (cs_8[0]?) fun u_9 =>
          (Option.bind (aggOf? 3 u_9) fun cs_10 =>
          (Option.bind (sliceOf? (cs_10[0]?)) fun s_11 =>
          (Option.bind (intOf? .i64 (cs_10[1]?)) fun x_12 =>
          (Option.bind (intOf? .i64 (cs_10[2]?)) fun x_13 =>
          (Option.bind (cs_8[1]?) fun u_14 =>
          (Option.bind (boolOf? (some u_14)) fun q_15 =>
          (Option.bind (AMem.wr (r_7.2 ++ [AObj.cells [.slice none 0 0, .int .i64 0, .int .i64 0] ⟨false, 0⟩]) (List.length r_7.2) 0 [.slice s_11.1 s_11.2.1 s_11.2.2, .int .i64 x_12, .int .i64 x_13]) fun M_16 =>
          (if (!((!(Option.isNone p_6)) == q_15)) = true
          then some (.bool false, M_16)
          else (if (!q_15) = true
            then (Option.bind (L.call 23 [] []) fun r_17 =>
              (Option.bind (boolOf? (some r_17.1)) fun q_18 =>
              some (.bool q_18, M_16)))
            else P5_34 L x1 x1n x1c x2 x3 p_6 (List.length r_7.2) 0 M_16))))))))))))))))
    else (if (decide ((Int.ofNat x1n) > 60)) = true
      then (Option.bind (L.call 23 [] []) fun r_19 =>
        (Option.bind (boolOf? (some r_19.1)) fun q_20 =>
        some (.bool q_20, M)))
      else (Option.bind (L.call 24 [.int .i64 x0] M) fun r_21 =>
        (Option.bind (ptrOf? (some r_21.1)) fun p_22 =>
        (Option.bind (L.call 25 [.int .i64 x0] r_21.2) fun r_23 =>
        (Option.bind (tupOf? 2 r_23.1) fun cs_24 =>
        (Option.bind (cs_24[0]?) fun u_25 =>
        (Option.bind (aggOf? 3 u_25) fun cs_26 =>
        (Option.bind (sliceOf? (cs_26[0]?)) fun s_27 =>
        (Option.bind (intOf? .i64 (cs_26[1]?)) fun x_28 =>
        (Option.bind (intOf? .i64 (cs_26[2]?)) fun x_29 =>
        (Option.bind (cs_24[1]?) fun u_30 =>
        (Option.bind (boolOf? (some u_30)) fun q_31 =>
        (Option.bind (AMem.wr (r_23.2 ++ [AObj.cells [.slice none 0 0, .int .i64 0, .int .i64 0] ⟨false, 0⟩]) (List.length r_23.2) 0 [.slice s_27.1 s_27.2.1 s_27.2.2, .int .i64 x_28, .int .i64 x_29]) fun M_32 =>
        (if (!((!(Option.isNone p_22)) == q_31)) = true
        then some (.bool false, M_32)
        else (if (!q_31) = true
          then (Option.bind (L.call 23 [] []) fun r_33 =>
            (Option.bind (boolOf? (some r_33.1)) fun q_34 =>
            some (.bool q_34, M_32)))
          else P5_34 L x1 x1n x1c x2 x3 p_22 (List.length r_23.2) 0 M_32)))))))))))))))) := by
  subst hP5_34; exact Eq.mp (by kernel_rfl) (GE5 L b5_34 c5_79 x0 x1 x1n x1c x2 x3 M)
theorem E5 (L : Rec) (x0 : Int) (x1 : Option Addr) (x1n : Nat) (x1c : Nat) (x2 : Int) (x3 : Int) (M : AMem) : enterF L a5 [.int .i64 x0, .slice x1 x1n x1c, .int .i64 x2, .int .i64 x3] M =
  (if (decide (x0 > 40)) = true
    then (if (decide (x0 ≤ 262144)) = true
      then (Option.bind (L.call 23 [] []) fun r_1 =>
        (Option.bind (boolOf? (some r_1.1)) fun q_2 =>
        some (.bool q_2, M)))
      else (if (decide ((Int.ofNat x1n) > 60)) = true
        then (Option.bind (L.call 23 [] []) fun r_3 =>
          (Option.bind (boolOf? (some r_3.1)) fun q_4 =>
          some (.bool q_4, M)))
        else (Option.bind (L.call 24 [.int .i64 x0] M) fun r_5 =>
          (Option.bind (ptrOf? (some r_5.1)) fun p_6 =>
          (Option.bind (L.call 25 [.int .i64 x0] r_5.2) fun r_7 =>
          (Option.bind (tupOf? 2 r_7.1) fun cs_8 =>
          (Option.bind (cs_8[0]?) fun u_9 =>
          (Option.bind (aggOf? 3 u_9) fun cs_10 =>
          (Option.bind (sliceOf? (cs_10[0]?)) fun s_11 =>
          (Option.bind (intOf? .i64 (cs_10[1]?)) fun x_12 =>
          (Option.bind (intOf? .i64 (cs_10[2]?)) fun x_13 =>
          (Option.bind (cs_8[1]?) fun u_14 =>
          (Option.bind (boolOf? (some u_14)) fun q_15 =>
          (Option.bind (AMem.wr (r_7.2 ++ [AObj.cells [.slice none 0 0, .int .i64 0, .int .i64 0] ⟨false, 0⟩]) (List.length r_7.2) 0 [.slice s_11.1 s_11.2.1 s_11.2.2, .int .i64 x_12, .int .i64 x_13]) fun M_16 =>
          (if (!((!(Option.isNone p_6)) == q_15)) = true
          then some (.bool false, M_16)
          else (if (!q_15) = true
            then (Option.bind (L.call 23 [] []) fun r_17 =>
              (Option.bind (boolOf? (some r_17.1)) fun q_18 =>
              some (.bool q_18, M_16)))
            else P5_34 L x1 x1n x1c x2 x3 p_6 (List.length r_7.2) 0 M_16))))))))))))))))
    else (if (decide ((Int.ofNat x1n) > 60)) = true
      then (Option.bind (L.call 23 [] []) fun r_19 =>
        (Option.bind (boolOf? (some r_19.1)) fun q_20 =>
        some (.bool q_20, M)))
      else (Option.bind (L.call 24 [.int .i64 x0] M) fun r_21 =>
        (Option.bind (ptrOf? (some r_21.1)) fun p_22 =>
        (Option.bind (L.call 25 [.int .i64 x0] r_21.2) fun r_23 =>
        (Option.bind (tupOf? 2 r_23.1) fun cs_24 =>
        (Option.bind (cs_24[0]?) fun u_25 =>
        (Option.bind (aggOf? 3 u_25) fun cs_26 =>
        (Option.bind (sliceOf? (cs_26[0]?)) fun s_27 =>
        (Option.bind (intOf? .i64 (cs_26[1]?)) fun x_28 =>
        (Option.bind (intOf? .i64 (cs_26[2]?)) fun x_29 =>
        (Option.bind (cs_24[1]?) fun u_30 =>
        (Option.bind (boolOf? (some u_30)) fun q_31 =>
        (Option.bind (AMem.wr (r_23.2 ++ [AObj.cells [.slice none 0 0, .int .i64 0, .int .i64 0] ⟨false, 0⟩]) (List.length r_23.2) 0 [.slice s_27.1 s_27.2.1 s_27.2.2, .int .i64 x_28, .int .i64 x_29]) fun M_32 =>
        (if (!((!(Option.isNone p_22)) == q_31)) = true
        then some (.bool false, M_32)
        else (if (!q_31) = true
          then (Option.bind (L.call 23 [] []) fun r_33 =>
            (Option.bind (boolOf? (some r_33.1)) fun q_34 =>
            some (.bool q_34, M_32)))
          else P5_34 L x1 x1n x1c x2 x3 p_22 (List.length r_23.2) 0 M_32)))))))))))))))) := QE5 L P5_34 (Classical.choose_spec XP5_34) x0 x1 x1n x1c x2 x3 M
/-! #### skylightlaw30.CellCounts -/
noncomputable def k6_30 (L : Rec) : KT := blockK 0 (seqK (code L (.clear [1, 2, 4, 5, 7, 8, 9, 10, 11, 12, 13, 14, 15, 16, 17, 18, 19, 20, 21, 22, 23, 24, 25, 26, 27, 28, 29, 30, 31, 32, 33, 34, 35, 36, 37, 38, 39, 40, 41, 42, 43, 44, 45, 46, 47, 48, 49, 50, 51, 52, 53, 54, 55, 56, 57, 58, 59, 60, 61, 62, 63, 64, 65, 66, 67, 68, 69, 70, 71, 72, 73, 74, 75, 76, 77, 78, 79, 80, 81, 82, 83, 84, 85, 86, 87, 88, 89, 90, 91, 92, 93, 94, 95, 96, 97, 98, 99, 100, 101, 102, 103, 104, 105, 106, 107] c6_79) (retK [.tmp 2])) (retK [.tmp 2]))
def s6_30 (x0 : Option Addr) (x0n : Nat) (x0c : Nat) (x3 : Option Addr) (x4 : Nat) (x5 : Nat) (x6 : Int) (x7 : Int) (M : AMem) : List Value := [.slice x0 x0n x0c, junk, junk, .pointer x3, .pointer (some ⟨x4, 0, none⟩), .pointer (some ⟨x5, 0, none⟩), .int .u64 x6, .int .i64 x7, junk, junk, junk, junk, junk, junk, junk, junk, junk, junk, junk, junk, junk, junk, junk, junk, junk, junk, junk, junk, junk, junk, junk, junk, junk, junk, junk, junk, junk, junk, junk, junk, junk, junk, junk, junk, junk, junk, junk, junk, junk, junk, junk, junk, junk, junk, junk, junk, junk, junk, junk, junk, junk, junk, junk, junk, junk, junk, junk, junk, junk, junk, junk, junk, junk, junk, junk, junk, junk, junk, junk, junk, junk, junk, junk, junk, junk, junk, junk, junk, junk, junk, junk, junk, junk, junk, junk, junk, junk, junk, junk, junk, junk, junk, junk, junk, junk, junk, junk, junk]
theorem XP6_30 : ∃ P : Rec → (Option Addr) → Nat → Nat → (Option Addr) → Nat → Nat → Int → Int → AMem → Res, P = fun (L : Rec) (x0 : Option Addr) (x0n : Nat) (x0c : Nat) (x3 : Option Addr) (x4 : Nat) (x5 : Nat) (x6 : Int) (x7 : Int) (M : AMem) => L.loop b6_30 (k6_30 L) (s6_30 x0 x0n x0c x3 x4 x5 x6 x7 M) M := ⟨_, rfl⟩
noncomputable def P6_30 : Rec → (Option Addr) → Nat → Nat → (Option Addr) → Nat → Nat → Int → Int → AMem → Res := Classical.choose XP6_30
noncomputable def k6_78 (L : Rec) : KT := postK [1, 2, 8, 9, 10, 11, 12, 13, 14, 15, 16, 17, 18, 19, 20, 21, 22, 23, 24, 25, 26, 27, 28, 29, 30, 31, 32, 33, 34, 35, 36, 37, 38, 39, 40, 41, 42, 43, 44, 45, 46, 47, 48, 49, 50, 51, 52, 53, 54, 55, 56, 57, 58, 59, 60, 61, 62, 63, 64, 65, 66, 67, 68, 69, 70, 71, 72, 73, 74, 75, 76, 77, 78, 79, 80, 81, 82, 83, 84, 85, 86, 87, 88, 89, 90, 91, 92, 93, 94, 95, 96, 97, 98, 99, 100, 101, 102, 103, 104, 105, 106, 107] (loopK L b6_30 (blockK 0 (seqK (code L (.clear [1, 2, 4, 5, 7, 8, 9, 10, 11, 12, 13, 14, 15, 16, 17, 18, 19, 20, 21, 22, 23, 24, 25, 26, 27, 28, 29, 30, 31, 32, 33, 34, 35, 36, 37, 38, 39, 40, 41, 42, 43, 44, 45, 46, 47, 48, 49, 50, 51, 52, 53, 54, 55, 56, 57, 58, 59, 60, 61, 62, 63, 64, 65, 66, 67, 68, 69, 70, 71, 72, 73, 74, 75, 76, 77, 78, 79, 80, 81, 82, 83, 84, 85, 86, 87, 88, 89, 90, 91, 92, 93, 94, 95, 96, 97, 98, 99, 100, 101, 102, 103, 104, 105, 106, 107] c6_79) (retK [.tmp 2])) (retK [.tmp 2]))))
def s6_78 (x0 : Option Addr) (x0n : Nat) (x0c : Nat) (x3 : Option Addr) (x4 : Nat) (x5 : Nat) (x6 : Int) (x7 : Int) (M : AMem) : List Value := [.slice x0 x0n x0c, junk, junk, .pointer x3, .pointer (some ⟨x4, 0, none⟩), .pointer (some ⟨x5, 0, none⟩), .int .u64 x6, .int .i64 x7, junk, junk, junk, junk, junk, junk, junk, junk, junk, junk, junk, junk, junk, junk, junk, junk, junk, junk, junk, junk, junk, junk, junk, junk, junk, junk, junk, junk, junk, junk, junk, junk, junk, junk, junk, junk, junk, junk, junk, junk, junk, junk, junk, junk, junk, junk, junk, junk, junk, junk, junk, junk, junk, junk, junk, junk, junk, junk, junk, junk, junk, junk, junk, junk, junk, junk, junk, junk, junk, junk, junk, junk, junk, junk, junk, junk, junk, junk, junk, junk, junk, junk, junk, junk, junk, junk, junk, junk, junk, junk, junk, junk, junk, junk, junk, junk, junk, junk, junk, junk]
theorem XP6_78 : ∃ P : Rec → (Option Addr) → Nat → Nat → (Option Addr) → Nat → Nat → Int → Int → AMem → Res, P = fun (L : Rec) (x0 : Option Addr) (x0n : Nat) (x0c : Nat) (x3 : Option Addr) (x4 : Nat) (x5 : Nat) (x6 : Int) (x7 : Int) (M : AMem) => code L c6_78 (k6_78 L) (s6_78 x0 x0n x0c x3 x4 x5 x6 x7 M) M := ⟨_, rfl⟩
noncomputable def P6_78 : Rec → (Option Addr) → Nat → Nat → (Option Addr) → Nat → Nat → Int → Int → AMem → Res := Classical.choose XP6_78
noncomputable def k6_79 (L : Rec) : KT := retK [.tmp 2]
def s6_79 (x0 : Option Addr) (x0n : Nat) (x0c : Nat) (x3 : Option Addr) (x6 : Int) (M : AMem) : List Value := [.slice x0 x0n x0c, junk, junk, .pointer x3, junk, junk, .int .u64 x6, junk, junk, junk, junk, junk, junk, junk, junk, junk, junk, junk, junk, junk, junk, junk, junk, junk, junk, junk, junk, junk, junk, junk, junk, junk, junk, junk, junk, junk, junk, junk, junk, junk, junk, junk, junk, junk, junk, junk, junk, junk, junk, junk, junk, junk, junk, junk, junk, junk, junk, junk, junk, junk, junk, junk, junk, junk, junk, junk, junk, junk, junk, junk, junk, junk, junk, junk, junk, junk, junk, junk, junk, junk, junk, junk, junk, junk, junk, junk, junk, junk, junk, junk, junk, junk, junk, junk, junk, junk, junk, junk, junk, junk, junk, junk, junk, junk, junk, junk, junk, junk]
theorem XP6_79 : ∃ P : Rec → (Option Addr) → Nat → Nat → (Option Addr) → Int → AMem → Res, P = fun (L : Rec) (x0 : Option Addr) (x0n : Nat) (x0c : Nat) (x3 : Option Addr) (x6 : Int) (M : AMem) => code L c6_79 (k6_79 L) (s6_79 x0 x0n x0c x3 x6 M) M := ⟨_, rfl⟩
noncomputable def P6_79 : Rec → (Option Addr) → Nat → Nat → (Option Addr) → Int → AMem → Res := Classical.choose XP6_79
theorem G6_30 (L : Rec) (b6_30 c6_78 c6_79 : ACode) (x0 : Option Addr) (x0n : Nat) (x0c : Nat) (x3 : Option Addr) (x4 : Nat) (x5 : Nat) (x6 : Int) (x7 : Int) (M : AMem) : code L (.post (.seq (.seq (.ops o6_33) (.cond (.tmp 24) (.skip) (.exit 0))) (.seq (.block 1 (.seq (.ops o6_40) (.seq (.seq (.ops o6_43) (.cond (.tmp 36) (.seq (.ops o6_46) (.seq (.seq (.ops o6_49) (.cond (.tmp 48) (.seq (.ops o6_52) (.ret)) (.skip))) (.seq (.ops o6_56) (.seq (.ops o6_58) (.exit 1))))) (.skip))) (.seq (.ops o6_62) (.seq (.draw [] 0 o6_64 []) (.seq (.seq (.ops o6_67) (.cond (.tmp 71) (.seq (.ops o6_70) (.ret)) (.skip))) (.seq (.ops o6_74) (.cond (.tmp 72) (.ops o6_76) (.skip))))))))) (.clear [1, 2, 8, 9, 10, 11, 12, 13, 14, 15, 16, 17, 18, 19, 20, 21, 22, 23, 24, 25, 26, 27, 28, 29, 30, 31, 32, 33, 34, 35, 36, 37, 38, 39, 40, 41, 42, 43, 44, 45, 46, 47, 48, 49, 50, 51, 52, 53, 54, 55, 56, 57, 58, 59, 60, 61, 62, 63, 64, 65, 66, 67, 68, 69, 70, 71, 72, 73, 74, 75, 76, 77, 78, 79, 80, 81, 82, 83, 84, 85, 86, 87, 88, 89, 90, 91, 92, 93, 94, 95, 96, 97, 98, 99, 100, 101, 102, 103, 104, 105, 106, 107] c6_78))) [1, 2, 8, 9, 10, 11, 12, 13, 14, 15, 16, 17, 18, 19, 20, 21, 22, 23, 24, 25, 26, 27, 28, 29, 30, 31, 32, 33, 34, 35, 36, 37, 38, 39, 40, 41, 42, 43, 44, 45, 46, 47, 48, 49, 50, 51, 52, 53, 54, 55, 56, 57, 58, 59, 60, 61, 62, 63, 64, 65, 66, 67, 68, 69, 70, 71, 72, 73, 74, 75, 76, 77, 78, 79, 80, 81, 82, 83, 84, 85, 86, 87, 88, 89, 90, 91, 92, 93, 94, 95, 96, 97, 98, 99, 100, 101, 102, 103, 104, 105, 106, 107]) (loopK L b6_30 (blockK 0 (seqK (code L (.clear [1, 2, 4, 5, 7, 8, 9, 10, 11, 12, 13, 14, 15, 16, 17, 18, 19, 20, 21, 22, 23, 24, 25, 26, 27, 28, 29, 30, 31, 32, 33, 34, 35, 36, 37, 38, 39, 40, 41, 42, 43, 44, 45, 46, 47, 48, 49, 50, 51, 52, 53, 54, 55, 56, 57, 58, 59, 60, 61, 62, 63, 64, 65, 66, 67, 68, 69, 70, 71, 72, 73, 74, 75, 76, 77, 78, 79, 80, 81, 82, 83, 84, 85, 86, 87, 88, 89, 90, 91, 92, 93, 94, 95, 96, 97, 98, 99, 100, 101, 102, 103, 104, 105, 106, 107] c6_79) (retK [.tmp 2])) (retK [.tmp 2])))) [.slice x0 x0n x0c, junk, junk, .pointer x3, .pointer (some ⟨x4, 0, none⟩), .pointer (some ⟨x5, 0, none⟩), .int .u64 x6, .int .i64 x7, junk, junk, junk, junk, junk, junk, junk, junk, junk, junk, junk, junk, junk, junk, junk, junk, junk, junk, junk, junk, junk, junk, junk, junk, junk, junk, junk, junk, junk, junk, junk, junk, junk, junk, junk, junk, junk, junk, junk, junk, junk, junk, junk, junk, junk, junk, junk, junk, junk, junk, junk, junk, junk, junk, junk, junk, junk, junk, junk, junk, junk, junk, junk, junk, junk, junk, junk, junk, junk, junk, junk, junk, junk, junk, junk, junk, junk, junk, junk, junk, junk, junk, junk, junk, junk, junk, junk, junk, junk, junk, junk, junk, junk, junk, junk, junk, junk, junk, junk, junk] M =
  (if (decide (x7 < (Int.ofNat x0n))) = true
    then (match x0 with
      | some a_1 => (if 0 ≤ x7 ∧ x7 < (Int.ofNat x0n)
        then (Option.bind (intOf? .u8 (AMem.ld M a_1.block (a_1.off + ((Int.toNat x7) * 1)))) fun x_2 =>
          (if 0 ≤ (Int.tmod (IntKind.wrap .i64 x_2) 8) ∧ (Int.tmod (IntKind.wrap .i64 x_2) 8) < 8
          then (Option.bind (boolOf? (AMem.ld M x5 (0 + ((Int.toNat (Int.tmod (IntKind.wrap .i64 x_2) 8)) * 1)))) fun q_3 =>
            (if (!q_3) = true
            then (Option.bind (L.call 27 [.pointer x3, .int .i64 1] M) fun r_4 =>
              (Option.bind (tupOf? 2 r_4.1) fun cs_5 =>
              (Option.bind (cs_5[0]?) fun u_6 =>
              (Option.bind (intOf? .u64 (some u_6)) fun x_7 =>
              (Option.bind (cs_5[1]?) fun u_8 =>
              (Option.bind (boolOf? (some u_8)) fun q_9 =>
              (if (!q_9) = true
              then some (.bool false, r_4.2)
              else (if (x_7 != x6) = true
                then some (.bool false, r_4.2)
                else (if 0 ≤ (Int.tmod (IntKind.wrap .i64 x_2) 8) ∧ (Int.tmod (IntKind.wrap .i64 x_2) 8) < 8
                  then (Option.bind (AMem.wr r_4.2 x4 (0 + ((Int.toNat (Int.tmod (IntKind.wrap .i64 x_2) 8)) * 1)) [.int .u64 x_7]) fun M_10 =>
                    (if 0 ≤ (Int.tmod (IntKind.wrap .i64 x_2) 8) ∧ (Int.tmod (IntKind.wrap .i64 x_2) 8) < 8
                    then (Option.bind (AMem.wr M_10 x5 (0 + ((Int.toNat (Int.tmod (IntKind.wrap .i64 x_2) 8)) * 1)) [.bool true]) fun M_11 =>
                      code L c6_78 (postK [1, 2, 8, 9, 10, 11, 12, 13, 14, 15, 16, 17, 18, 19, 20, 21, 22, 23, 24, 25, 26, 27, 28, 29, 30, 31, 32, 33, 34, 35, 36, 37, 38, 39, 40, 41, 42, 43, 44, 45, 46, 47, 48, 49, 50, 51, 52, 53, 54, 55, 56, 57, 58, 59, 60, 61, 62, 63, 64, 65, 66, 67, 68, 69, 70, 71, 72, 73, 74, 75, 76, 77, 78, 79, 80, 81, 82, 83, 84, 85, 86, 87, 88, 89, 90, 91, 92, 93, 94, 95, 96, 97, 98, 99, 100, 101, 102, 103, 104, 105, 106, 107] (loopK L b6_30 (blockK 0 (seqK (code L (.clear [1, 2, 4, 5, 7, 8, 9, 10, 11, 12, 13, 14, 15, 16, 17, 18, 19, 20, 21, 22, 23, 24, 25, 26, 27, 28, 29, 30, 31, 32, 33, 34, 35, 36, 37, 38, 39, 40, 41, 42, 43, 44, 45, 46, 47, 48, 49, 50, 51, 52, 53, 54, 55, 56, 57, 58, 59, 60, 61, 62, 63, 64, 65, 66, 67, 68, 69, 70, 71, 72, 73, 74, 75, 76, 77, 78, 79, 80, 81, 82, 83, 84, 85, 86, 87, 88, 89, 90, 91, 92, 93, 94, 95, 96, 97, 98, 99, 100, 101, 102, 103, 104, 105, 106, 107] c6_79) (retK [.tmp 2])) (retK [.tmp 2]))))) [.slice x0 x0n x0c, junk, junk, .pointer x3, .pointer (some ⟨x4, 0, none⟩), .pointer (some ⟨x5, 0, none⟩), .int .u64 x6, .int .i64 x7, junk, junk, junk, junk, junk, junk, junk, junk, junk, junk, junk, junk, junk, junk, junk, junk, junk, junk, junk, junk, junk, junk, junk, junk, junk, junk, junk, junk, junk, junk, junk, junk, junk, junk, junk, junk, junk, junk, junk, junk, junk, junk, junk, junk, junk, junk, junk, junk, junk, junk, junk, junk, junk, junk, junk, junk, junk, junk, junk, junk, junk, junk, junk, junk, junk, junk, junk, junk, junk, junk, junk, junk, junk, junk, junk, junk, junk, junk, junk, junk, junk, junk, junk, junk, junk, junk, junk, junk, junk, junk, junk, junk, junk, junk, junk, junk, junk, junk, junk, junk] M_11)
                    else none))
                  else none)))))))))
            else (if 0 ≤ (Int.tmod (IntKind.wrap .i64 x_2) 8) ∧ (Int.tmod (IntKind.wrap .i64 x_2) 8) < 8
              then (Option.bind (AMem.wr M x5 (0 + ((Int.toNat (Int.tmod (IntKind.wrap .i64 x_2) 8)) * 1)) [.bool false]) fun M_12 =>
                (if 0 ≤ (Int.tmod (IntKind.wrap .i64 x_2) 8) ∧ (Int.tmod (IntKind.wrap .i64 x_2) 8) < 8
                then (Option.bind (intOf? .u64 (AMem.ld M_12 x4 (0 + ((Int.toNat (Int.tmod (IntKind.wrap .i64 x_2) 8)) * 1)))) fun x_13 =>
                  (if 0 ≤ (Int.tmod (IntKind.wrap .i64 x_2) 8) ∧ (Int.tmod (IntKind.wrap .i64 x_2) 8) < 8
                  then (Option.bind (intOf? .u64 (AMem.ld M_12 x4 (0 + ((Int.toNat (Int.tmod (IntKind.wrap .i64 x_2) 8)) * 1)))) fun x_14 =>
                    (Option.bind (L.call 28 [.pointer x3, .int .i64 1, .int .u64 x_13, .int .u64 (IntKind.wrap .u64 (x_14 + 1))] M_12) fun r_15 =>
                    (Option.bind (boolOf? (some r_15.1)) fun q_16 =>
                    (if 0 ≤ (Int.tmod (IntKind.wrap .i64 x_2) 8) ∧ (Int.tmod (IntKind.wrap .i64 x_2) 8) < 8
                    then (Option.bind (intOf? .u64 (AMem.ld r_15.2 x4 (0 + ((Int.toNat (Int.tmod (IntKind.wrap .i64 x_2) 8)) * 1)))) fun x_17 =>
                      (if (!(q_16 == (x_17 == x6))) = true
                      then some (.bool false, r_15.2)
                      else (if q_16 = true
                        then code L c6_78 (postK [1, 2, 8, 9, 10, 11, 12, 13, 14, 15, 16, 17, 18, 19, 20, 21, 22, 23, 24, 25, 26, 27, 28, 29, 30, 31, 32, 33, 34, 35, 36, 37, 38, 39, 40, 41, 42, 43, 44, 45, 46, 47, 48, 49, 50, 51, 52, 53, 54, 55, 56, 57, 58, 59, 60, 61, 62, 63, 64, 65, 66, 67, 68, 69, 70, 71, 72, 73, 74, 75, 76, 77, 78, 79, 80, 81, 82, 83, 84, 85, 86, 87, 88, 89, 90, 91, 92, 93, 94, 95, 96, 97, 98, 99, 100, 101, 102, 103, 104, 105, 106, 107] (loopK L b6_30 (blockK 0 (seqK (code L (.clear [1, 2, 4, 5, 7, 8, 9, 10, 11, 12, 13, 14, 15, 16, 17, 18, 19, 20, 21, 22, 23, 24, 25, 26, 27, 28, 29, 30, 31, 32, 33, 34, 35, 36, 37, 38, 39, 40, 41, 42, 43, 44, 45, 46, 47, 48, 49, 50, 51, 52, 53, 54, 55, 56, 57, 58, 59, 60, 61, 62, 63, 64, 65, 66, 67, 68, 69, 70, 71, 72, 73, 74, 75, 76, 77, 78, 79, 80, 81, 82, 83, 84, 85, 86, 87, 88, 89, 90, 91, 92, 93, 94, 95, 96, 97, 98, 99, 100, 101, 102, 103, 104, 105, 106, 107] c6_79) (retK [.tmp 2])) (retK [.tmp 2]))))) [.slice x0 x0n x0c, junk, junk, .pointer x3, .pointer (some ⟨x4, 0, none⟩), .pointer (some ⟨x5, 0, none⟩), .int .u64 (IntKind.wrap .u64 (x6 + 1)), .int .i64 x7, junk, junk, junk, junk, junk, junk, junk, junk, junk, junk, junk, junk, junk, junk, junk, junk, junk, junk, junk, junk, junk, junk, junk, junk, junk, junk, junk, junk, junk, junk, junk, junk, junk, junk, junk, junk, junk, junk, junk, junk, junk, junk, junk, junk, junk, junk, junk, junk, junk, junk, junk, junk, junk, junk, junk, junk, junk, junk, junk, junk, junk, junk, junk, junk, junk, junk, junk, junk, junk, junk, junk, junk, junk, junk, junk, junk, junk, junk, junk, junk, junk, junk, junk, junk, junk, junk, junk, junk, junk, junk, junk, junk, junk, junk, junk, junk, junk, junk, junk, junk] r_15.2
                        else code L c6_78 (postK [1, 2, 8, 9, 10, 11, 12, 13, 14, 15, 16, 17, 18, 19, 20, 21, 22, 23, 24, 25, 26, 27, 28, 29, 30, 31, 32, 33, 34, 35, 36, 37, 38, 39, 40, 41, 42, 43, 44, 45, 46, 47, 48, 49, 50, 51, 52, 53, 54, 55, 56, 57, 58, 59, 60, 61, 62, 63, 64, 65, 66, 67, 68, 69, 70, 71, 72, 73, 74, 75, 76, 77, 78, 79, 80, 81, 82, 83, 84, 85, 86, 87, 88, 89, 90, 91, 92, 93, 94, 95, 96, 97, 98, 99, 100, 101, 102, 103, 104, 105, 106, 107] (loopK L b6_30 (blockK 0 (seqK (code L (.clear [1, 2, 4, 5, 7, 8, 9, 10, 11, 12, 13, 14, 15, 16, 17, 18, 19, 20, 21, 22, 23, 24, 25, 26, 27, 28, 29, 30, 31, 32, 33, 34, 35, 36, 37, 38, 39, 40, 41, 42, 43, 44, 45, 46, 47, 48, 49, 50, 51, 52, 53, 54, 55, 56, 57, 58, 59, 60, 61, 62, 63, 64, 65, 66, 67, 68, 69, 70, 71, 72, 73, 74, 75, 76, 77, 78, 79, 80, 81, 82, 83, 84, 85, 86, 87, 88, 89, 90, 91, 92, 93, 94, 95, 96, 97, 98, 99, 100, 101, 102, 103, 104, 105, 106, 107] c6_79) (retK [.tmp 2])) (retK [.tmp 2]))))) [.slice x0 x0n x0c, junk, junk, .pointer x3, .pointer (some ⟨x4, 0, none⟩), .pointer (some ⟨x5, 0, none⟩), .int .u64 x6, .int .i64 x7, junk, junk, junk, junk, junk, junk, junk, junk, junk, junk, junk, junk, junk, junk, junk, junk, junk, junk, junk, junk, junk, junk, junk, junk, junk, junk, junk, junk, junk, junk, junk, junk, junk, junk, junk, junk, junk, junk, junk, junk, junk, junk, junk, junk, junk, junk, junk, junk, junk, junk, junk, junk, junk, junk, junk, junk, junk, junk, junk, junk, junk, junk, junk, junk, junk, junk, junk, junk, junk, junk, junk, junk, junk, junk, junk, junk, junk, junk, junk, junk, junk, junk, junk, junk, junk, junk, junk, junk, junk, junk, junk, junk, junk, junk, junk, junk, junk, junk, junk, junk] r_15.2)))
                    else none))))
                  else none))
                else none))
              else none)))
          else none))
        else none)
      | none => none)
    else code L c6_79 (retK [.tmp 2]) [.slice x0 x0n x0c, junk, junk, .pointer x3, junk, junk, .int .u64 x6, junk, junk, junk, junk, junk, junk, junk, junk, junk, junk, junk, junk, junk, junk, junk, junk, junk, junk, junk, junk, junk, junk, junk, junk, junk, junk, junk, junk, junk, junk, junk, junk, junk, junk, junk, junk, junk, junk, junk, junk, junk, junk, junk, junk, junk, junk, junk, junk, junk, junk, junk, junk, junk, junk, junk, junk, junk, junk, junk, junk, junk, junk, junk, junk, junk, junk, junk, junk, junk, junk, junk, junk, junk, junk, junk, junk, junk, junk, junk, junk, junk, junk, junk, junk, junk, junk, junk, junk, junk, junk, junk, junk, junk, junk, junk, junk, junk, junk, junk, junk, junk] M) := by kernel_rfl
theorem QP6_30_eq (L : Rec) (hL : ∀ b K t A, L.loop b K t A = code L b (loopK L b K) t A) (P6_30 : Rec → (Option Addr) → Nat → Nat → (Option Addr) → Nat → Nat → Int → Int → AMem → Res) (hP6_30 : P6_30 = fun (L : Rec) (x0 : Option Addr) (x0n : Nat) (x0c : Nat) (x3 : Option Addr) (x4 : Nat) (x5 : Nat) (x6 : Int) (x7 : Int) (M : AMem) => L.loop b6_30 (k6_30 L) (s6_30 x0 x0n x0c x3 x4 x5 x6 x7 M) M) (P6_78 : Rec → (Option Addr) → Nat → Nat → (Option Addr) → Nat → Nat → Int → Int → AMem → Res) (hP6_78 : P6_78 = fun (L : Rec) (x0 : Option Addr) (x0n : Nat) (x0c : Nat) (x3 : Option Addr) (x4 : Nat) (x5 : Nat) (x6 : Int) (x7 : Int) (M : AMem) => code L c6_78 (k6_78 L) (s6_78 x0 x0n x0c x3 x4 x5 x6 x7 M) M) (P6_79 : Rec → (Option Addr) → Nat → Nat → (Option Addr) → Int → AMem → Res) (hP6_79 : P6_79 = fun (L : Rec) (x0 : Option Addr) (x0n : Nat) (x0c : Nat) (x3 : Option Addr) (x6 : Int) (M : AMem) => code L c6_79 (k6_79 L) (s6_79 x0 x0n x0c x3 x6 M) M) (x0 : Option Addr) (x0n : Nat) (x0c : Nat) (x3 : Option Addr) (x4 : Nat) (x5 : Nat) (x6 : Int) (x7 : Int) (M : AMem) : P6_30 L x0 x0n x0c x3 x4 x5 x6 x7 M =
  (if (decide (x7 < (Int.ofNat x0n))) = true
    then (match x0 with
      | some a_1 => (if 0 ≤ x7 ∧ x7 < (Int.ofNat x0n)
        then (Option.bind (intOf? .u8 (AMem.ld M a_1.block (a_1.off + ((Int.toNat x7) * 1)))) fun x_2 =>
          (if 0 ≤ (Int.tmod (IntKind.wrap .i64 x_2) 8) ∧ (Int.tmod (IntKind.wrap .i64 x_2) 8) < 8
          then (Option.bind (boolOf? (AMem.ld M x5 (0 + ((Int.toNat (Int.tmod (IntKind.wrap .i64 x_2) 8)) * 1)))) fun q_3 =>
            (if (!q_3) = true
            then (Option.bind (L.call 27 [.pointer x3, .int .i64 1] M) fun r_4 =>
              (Option.bind (tupOf? 2 r_4.1) fun cs_5 =>
              (Option.bind (cs_5[0]?) fun u_6 =>
              (Option.bind (intOf? .u64 (some u_6)) fun x_7 =>
              (Option.bind (cs_5[1]?) fun u_8 =>
              (Option.bind (boolOf? (some u_8)) fun q_9 =>
              (if (!q_9) = true
              then some (.bool false, r_4.2)
              else (if (x_7 != x6) = true
                then some (.bool false, r_4.2)
                else (if 0 ≤ (Int.tmod (IntKind.wrap .i64 x_2) 8) ∧ (Int.tmod (IntKind.wrap .i64 x_2) 8) < 8
                  then (Option.bind (AMem.wr r_4.2 x4 (0 + ((Int.toNat (Int.tmod (IntKind.wrap .i64 x_2) 8)) * 1)) [.int .u64 x_7]) fun M_10 =>
                    (if 0 ≤ (Int.tmod (IntKind.wrap .i64 x_2) 8) ∧ (Int.tmod (IntKind.wrap .i64 x_2) 8) < 8
                    then (Option.bind (AMem.wr M_10 x5 (0 + ((Int.toNat (Int.tmod (IntKind.wrap .i64 x_2) 8)) * 1)) [.bool true]) fun M_11 =>
                      P6_78 L x0 x0n x0c x3 x4 x5 x6 x7 M_11)
                    else none))
                  else none)))))))))
            else (if 0 ≤ (Int.tmod (IntKind.wrap .i64 x_2) 8) ∧ (Int.tmod (IntKind.wrap .i64 x_2) 8) < 8
              then (Option.bind (AMem.wr M x5 (0 + ((Int.toNat (Int.tmod (IntKind.wrap .i64 x_2) 8)) * 1)) [.bool false]) fun M_12 =>
                (if 0 ≤ (Int.tmod (IntKind.wrap .i64 x_2) 8) ∧ (Int.tmod (IntKind.wrap .i64 x_2) 8) < 8
                then (Option.bind (intOf? .u64 (AMem.ld M_12 x4 (0 + ((Int.toNat (Int.tmod (IntKind.wrap .i64 x_2) 8)) * 1)))) fun x_13 =>
                  (if 0 ≤ (Int.tmod (IntKind.wrap .i64 x_2) 8) ∧ (Int.tmod (IntKind.wrap .i64 x_2) 8) < 8
                  then (Option.bind (intOf? .u64 (AMem.ld M_12 x4 (0 + ((Int.toNat (Int.tmod (IntKind.wrap .i64 x_2) 8)) * 1)))) fun x_14 =>
                    (Option.bind (L.call 28 [.pointer x3, .int .i64 1, .int .u64 x_13, .int .u64 (IntKind.wrap .u64 (x_14 + 1))] M_12) fun r_15 =>
                    (Option.bind (boolOf? (some r_15.1)) fun q_16 =>
                    (if 0 ≤ (Int.tmod (IntKind.wrap .i64 x_2) 8) ∧ (Int.tmod (IntKind.wrap .i64 x_2) 8) < 8
                    then (Option.bind (intOf? .u64 (AMem.ld r_15.2 x4 (0 + ((Int.toNat (Int.tmod (IntKind.wrap .i64 x_2) 8)) * 1)))) fun x_17 =>
                      (if (!(q_16 == (x_17 == x6))) = true
                      then some (.bool false, r_15.2)
                      else (if q_16 = true
                        then P6_78 L x0 x0n x0c x3 x4 x5 (IntKind.wrap .u64 (x6 + 1)) x7 r_15.2
                        else P6_78 L x0 x0n x0c x3 x4 x5 x6 x7 r_15.2)))
                    else none))))
                  else none))
                else none))
              else none)))
          else none))
        else none)
      | none => none)
    else P6_79 L x0 x0n x0c x3 x6 M) := by
  subst hP6_30; subst hP6_78; subst hP6_79; exact Eq.trans (b := code L b6_30 (loopK L b6_30 (k6_30 L)) (s6_30 x0 x0n x0c x3 x4 x5 x6 x7 M) M) (hL b6_30 (k6_30 L) (s6_30 x0 x0n x0c x3 x4 x5 x6 x7 M) M) (Eq.mp (by kernel_rfl) (G6_30 L b6_30 c6_78 c6_79 x0 x0n x0c x3 x4 x5 x6 x7 M))
theorem P6_30_eq (L : Rec) (hL : ∀ b K t A, L.loop b K t A = code L b (loopK L b K) t A) (x0 : Option Addr) (x0n : Nat) (x0c : Nat) (x3 : Option Addr) (x4 : Nat) (x5 : Nat) (x6 : Int) (x7 : Int) (M : AMem) : P6_30 L x0 x0n x0c x3 x4 x5 x6 x7 M =
  (if (decide (x7 < (Int.ofNat x0n))) = true
    then (match x0 with
      | some a_1 => (if 0 ≤ x7 ∧ x7 < (Int.ofNat x0n)
        then (Option.bind (intOf? .u8 (AMem.ld M a_1.block (a_1.off + ((Int.toNat x7) * 1)))) fun x_2 =>
          (if 0 ≤ (Int.tmod (IntKind.wrap .i64 x_2) 8) ∧ (Int.tmod (IntKind.wrap .i64 x_2) 8) < 8
          then (Option.bind (boolOf? (AMem.ld M x5 (0 + ((Int.toNat (Int.tmod (IntKind.wrap .i64 x_2) 8)) * 1)))) fun q_3 =>
            (if (!q_3) = true
            then (Option.bind (L.call 27 [.pointer x3, .int .i64 1] M) fun r_4 =>
              (Option.bind (tupOf? 2 r_4.1) fun cs_5 =>
              (Option.bind (cs_5[0]?) fun u_6 =>
              (Option.bind (intOf? .u64 (some u_6)) fun x_7 =>
              (Option.bind (cs_5[1]?) fun u_8 =>
              (Option.bind (boolOf? (some u_8)) fun q_9 =>
              (if (!q_9) = true
              then some (.bool false, r_4.2)
              else (if (x_7 != x6) = true
                then some (.bool false, r_4.2)
                else (if 0 ≤ (Int.tmod (IntKind.wrap .i64 x_2) 8) ∧ (Int.tmod (IntKind.wrap .i64 x_2) 8) < 8
                  then (Option.bind (AMem.wr r_4.2 x4 (0 + ((Int.toNat (Int.tmod (IntKind.wrap .i64 x_2) 8)) * 1)) [.int .u64 x_7]) fun M_10 =>
                    (if 0 ≤ (Int.tmod (IntKind.wrap .i64 x_2) 8) ∧ (Int.tmod (IntKind.wrap .i64 x_2) 8) < 8
                    then (Option.bind (AMem.wr M_10 x5 (0 + ((Int.toNat (Int.tmod (IntKind.wrap .i64 x_2) 8)) * 1)) [.bool true]) fun M_11 =>
                      P6_78 L x0 x0n x0c x3 x4 x5 x6 x7 M_11)
                    else none))
                  else none)))))))))
            else (if 0 ≤ (Int.tmod (IntKind.wrap .i64 x_2) 8) ∧ (Int.tmod (IntKind.wrap .i64 x_2) 8) < 8
              then (Option.bind (AMem.wr M x5 (0 + ((Int.toNat (Int.tmod (IntKind.wrap .i64 x_2) 8)) * 1)) [.bool false]) fun M_12 =>
                (if 0 ≤ (Int.tmod (IntKind.wrap .i64 x_2) 8) ∧ (Int.tmod (IntKind.wrap .i64 x_2) 8) < 8
                then (Option.bind (intOf? .u64 (AMem.ld M_12 x4 (0 + ((Int.toNat (Int.tmod (IntKind.wrap .i64 x_2) 8)) * 1)))) fun x_13 =>
                  (if 0 ≤ (Int.tmod (IntKind.wrap .i64 x_2) 8) ∧ (Int.tmod (IntKind.wrap .i64 x_2) 8) < 8
                  then (Option.bind (intOf? .u64 (AMem.ld M_12 x4 (0 + ((Int.toNat (Int.tmod (IntKind.wrap .i64 x_2) 8)) * 1)))) fun x_14 =>
                    (Option.bind (L.call 28 [.pointer x3, .int .i64 1, .int .u64 x_13, .int .u64 (IntKind.wrap .u64 (x_14 + 1))] M_12) fun r_15 =>
                    (Option.bind (boolOf? (some r_15.1)) fun q_16 =>
                    (if 0 ≤ (Int.tmod (IntKind.wrap .i64 x_2) 8) ∧ (Int.tmod (IntKind.wrap .i64 x_2) 8) < 8
                    then (Option.bind (intOf? .u64 (AMem.ld r_15.2 x4 (0 + ((Int.toNat (Int.tmod (IntKind.wrap .i64 x_2) 8)) * 1)))) fun x_17 =>
                      (if (!(q_16 == (x_17 == x6))) = true
                      then some (.bool false, r_15.2)
                      else (if q_16 = true
                        then P6_78 L x0 x0n x0c x3 x4 x5 (IntKind.wrap .u64 (x6 + 1)) x7 r_15.2
                        else P6_78 L x0 x0n x0c x3 x4 x5 x6 x7 r_15.2)))
                    else none))))
                  else none))
                else none))
              else none)))
          else none))
        else none)
      | none => none)
    else P6_79 L x0 x0n x0c x3 x6 M) := QP6_30_eq L hL P6_30 (Classical.choose_spec XP6_30) P6_78 (Classical.choose_spec XP6_78) P6_79 (Classical.choose_spec XP6_79) x0 x0n x0c x3 x4 x5 x6 x7 M
theorem G6_78 (L : Rec) (b6_30 c6_79 : ACode) (x0 : Option Addr) (x0n : Nat) (x0c : Nat) (x3 : Option Addr) (x4 : Nat) (x5 : Nat) (x6 : Int) (x7 : Int) (M : AMem) : code L (.ops o6_78) (postK [1, 2, 8, 9, 10, 11, 12, 13, 14, 15, 16, 17, 18, 19, 20, 21, 22, 23, 24, 25, 26, 27, 28, 29, 30, 31, 32, 33, 34, 35, 36, 37, 38, 39, 40, 41, 42, 43, 44, 45, 46, 47, 48, 49, 50, 51, 52, 53, 54, 55, 56, 57, 58, 59, 60, 61, 62, 63, 64, 65, 66, 67, 68, 69, 70, 71, 72, 73, 74, 75, 76, 77, 78, 79, 80, 81, 82, 83, 84, 85, 86, 87, 88, 89, 90, 91, 92, 93, 94, 95, 96, 97, 98, 99, 100, 101, 102, 103, 104, 105, 106, 107] (loopK L b6_30 (blockK 0 (seqK (code L (.clear [1, 2, 4, 5, 7, 8, 9, 10, 11, 12, 13, 14, 15, 16, 17, 18, 19, 20, 21, 22, 23, 24, 25, 26, 27, 28, 29, 30, 31, 32, 33, 34, 35, 36, 37, 38, 39, 40, 41, 42, 43, 44, 45, 46, 47, 48, 49, 50, 51, 52, 53, 54, 55, 56, 57, 58, 59, 60, 61, 62, 63, 64, 65, 66, 67, 68, 69, 70, 71, 72, 73, 74, 75, 76, 77, 78, 79, 80, 81, 82, 83, 84, 85, 86, 87, 88, 89, 90, 91, 92, 93, 94, 95, 96, 97, 98, 99, 100, 101, 102, 103, 104, 105, 106, 107] c6_79) (retK [.tmp 2])) (retK [.tmp 2]))))) [.slice x0 x0n x0c, junk, junk, .pointer x3, .pointer (some ⟨x4, 0, none⟩), .pointer (some ⟨x5, 0, none⟩), .int .u64 x6, .int .i64 x7, junk, junk, junk, junk, junk, junk, junk, junk, junk, junk, junk, junk, junk, junk, junk, junk, junk, junk, junk, junk, junk, junk, junk, junk, junk, junk, junk, junk, junk, junk, junk, junk, junk, junk, junk, junk, junk, junk, junk, junk, junk, junk, junk, junk, junk, junk, junk, junk, junk, junk, junk, junk, junk, junk, junk, junk, junk, junk, junk, junk, junk, junk, junk, junk, junk, junk, junk, junk, junk, junk, junk, junk, junk, junk, junk, junk, junk, junk, junk, junk, junk, junk, junk, junk, junk, junk, junk, junk, junk, junk, junk, junk, junk, junk, junk, junk, junk, junk, junk, junk] M =
  L.loop b6_30 (blockK 0 (seqK (code L (.clear [1, 2, 4, 5, 7, 8, 9, 10, 11, 12, 13, 14, 15, 16, 17, 18, 19, 20, 21, 22, 23, 24, 25, 26, 27, 28, 29, 30, 31, 32, 33, 34, 35, 36, 37, 38, 39, 40, 41, 42, 43, 44, 45, 46, 47, 48, 49, 50, 51, 52, 53, 54, 55, 56, 57, 58, 59, 60, 61, 62, 63, 64, 65, 66, 67, 68, 69, 70, 71, 72, 73, 74, 75, 76, 77, 78, 79, 80, 81, 82, 83, 84, 85, 86, 87, 88, 89, 90, 91, 92, 93, 94, 95, 96, 97, 98, 99, 100, 101, 102, 103, 104, 105, 106, 107] c6_79) (retK [.tmp 2])) (retK [.tmp 2]))) [.slice x0 x0n x0c, junk, junk, .pointer x3, .pointer (some ⟨x4, 0, none⟩), .pointer (some ⟨x5, 0, none⟩), .int .u64 x6, .int .i64 (IntKind.wrap .i64 (x7 + 1)), junk, junk, junk, junk, junk, junk, junk, junk, junk, junk, junk, junk, junk, junk, junk, junk, junk, junk, junk, junk, junk, junk, junk, junk, junk, junk, junk, junk, junk, junk, junk, junk, junk, junk, junk, junk, junk, junk, junk, junk, junk, junk, junk, junk, junk, junk, junk, junk, junk, junk, junk, junk, junk, junk, junk, junk, junk, junk, junk, junk, junk, junk, junk, junk, junk, junk, junk, junk, junk, junk, junk, junk, junk, junk, junk, junk, junk, junk, junk, junk, junk, junk, junk, junk, junk, junk, junk, junk, junk, junk, junk, junk, junk, junk, junk, junk, junk, junk, junk, junk] M := by kernel_rfl
theorem QP6_78_eq (L : Rec) (P6_30 : Rec → (Option Addr) → Nat → Nat → (Option Addr) → Nat → Nat → Int → Int → AMem → Res) (hP6_30 : P6_30 = fun (L : Rec) (x0 : Option Addr) (x0n : Nat) (x0c : Nat) (x3 : Option Addr) (x4 : Nat) (x5 : Nat) (x6 : Int) (x7 : Int) (M : AMem) => L.loop b6_30 (k6_30 L) (s6_30 x0 x0n x0c x3 x4 x5 x6 x7 M) M) (P6_78 : Rec → (Option Addr) → Nat → Nat → (Option Addr) → Nat → Nat → Int → Int → AMem → Res) (hP6_78 : P6_78 = fun (L : Rec) (x0 : Option Addr) (x0n : Nat) (x0c : Nat) (x3 : Option Addr) (x4 : Nat) (x5 : Nat) (x6 : Int) (x7 : Int) (M : AMem) => code L c6_78 (k6_78 L) (s6_78 x0 x0n x0c x3 x4 x5 x6 x7 M) M) (x0 : Option Addr) (x0n : Nat) (x0c : Nat) (x3 : Option Addr) (x4 : Nat) (x5 : Nat) (x6 : Int) (x7 : Int) (M : AMem) : P6_78 L x0 x0n x0c x3 x4 x5 x6 x7 M =
  P6_30 L x0 x0n x0c x3 x4 x5 x6 (IntKind.wrap .i64 (x7 + 1)) M := by
  subst hP6_30; subst hP6_78; exact Eq.mp (by kernel_rfl) (G6_78 L b6_30 c6_79 x0 x0n x0c x3 x4 x5 x6 x7 M)
theorem P6_78_eq (L : Rec) (x0 : Option Addr) (x0n : Nat) (x0c : Nat) (x3 : Option Addr) (x4 : Nat) (x5 : Nat) (x6 : Int) (x7 : Int) (M : AMem) : P6_78 L x0 x0n x0c x3 x4 x5 x6 x7 M =
  P6_30 L x0 x0n x0c x3 x4 x5 x6 (IntKind.wrap .i64 (x7 + 1)) M := QP6_78_eq L P6_30 (Classical.choose_spec XP6_30) P6_78 (Classical.choose_spec XP6_78) x0 x0n x0c x3 x4 x5 x6 x7 M
theorem G6_79 (L : Rec) (x0 : Option Addr) (x0n : Nat) (x0c : Nat) (x3 : Option Addr) (x6 : Int) (M : AMem) : code L (.seq (.ops o6_80) (.seq (.ops o6_82) (.ret))) (retK [.tmp 2]) [.slice x0 x0n x0c, junk, junk, .pointer x3, junk, junk, .int .u64 x6, junk, junk, junk, junk, junk, junk, junk, junk, junk, junk, junk, junk, junk, junk, junk, junk, junk, junk, junk, junk, junk, junk, junk, junk, junk, junk, junk, junk, junk, junk, junk, junk, junk, junk, junk, junk, junk, junk, junk, junk, junk, junk, junk, junk, junk, junk, junk, junk, junk, junk, junk, junk, junk, junk, junk, junk, junk, junk, junk, junk, junk, junk, junk, junk, junk, junk, junk, junk, junk, junk, junk, junk, junk, junk, junk, junk, junk, junk, junk, junk, junk, junk, junk, junk, junk, junk, junk, junk, junk, junk, junk, junk, junk, junk, junk, junk, junk, junk, junk, junk, junk] M =
  (Option.bind (L.call 27 [.pointer x3, .int .i64 1] M) fun r_1 =>
    (Option.bind (tupOf? 2 r_1.1) fun cs_2 =>
    (Option.bind (cs_2[0]?) fun u_3 =>
    (Option.bind (intOf? .u64 (some u_3)) fun x_4 =>
    (Option.bind (cs_2[1]?) fun u_5 =>
    (Option.bind (boolOf? (some u_5)) fun q_6 =>
    (if (x_4 == x6) = true
    then (Option.bind (L.call 31 [.pointer x3] r_1.2) fun r_7 =>
      (Option.bind (intOf? .i64 (some r_7.1)) fun x_8 =>
      (if (x_8 == (IntKind.wrap .i64 x6)) = true
      then (Option.bind (L.call 30 [.pointer x3] r_7.2) fun r_9 =>
        (Option.bind (intOf? .i64 (some r_9.1)) fun x_10 =>
        (if (x_10 == (IntKind.wrap .i64 ((Int.ofNat x0n) + 1))) = true
        then (Option.bind (L.call 33 [.pointer x3, .int .i64 0, .int .i64 3] r_9.2) fun r_11 =>
          (Option.bind (sliceOf? (some r_11.1)) fun s_12 =>
          (Option.bind (L.call 34 [.slice s_12.1 s_12.2.1 s_12.2.2, .slice (some ⟨(List.length r_11.2), 0, none⟩) 3 1] (r_11.2 ++ [AObj.cells [.int .u64 0, .int .u64 x6, .int .u64 0] ⟨false, 0⟩])) fun r_13 =>
          (Option.bind (boolOf? (some r_13.1)) fun q_14 =>
          (if q_14 = true
          then (Option.bind (L.call 23 [] []) fun r_15 =>
            (Option.bind (boolOf? (some r_15.1)) fun q_16 =>
            some (.bool q_16, r_13.2)))
          else some (.bool false, r_13.2))))))
        else some (.bool false, r_9.2))))
      else some (.bool false, r_7.2))))
    else some (.bool false, r_1.2)))))))) := by kernel_rfl
theorem QP6_79_eq (L : Rec) (P6_79 : Rec → (Option Addr) → Nat → Nat → (Option Addr) → Int → AMem → Res) (hP6_79 : P6_79 = fun (L : Rec) (x0 : Option Addr) (x0n : Nat) (x0c : Nat) (x3 : Option Addr) (x6 : Int) (M : AMem) => code L c6_79 (k6_79 L) (s6_79 x0 x0n x0c x3 x6 M) M) (x0 : Option Addr) (x0n : Nat) (x0c : Nat) (x3 : Option Addr) (x6 : Int) (M : AMem) : P6_79 L x0 x0n x0c x3 x6 M =
  (Option.bind (L.call 27 [.pointer x3, .int .i64 1] M) fun r_1 =>
    (Option.bind (tupOf? 2 r_1.1) fun cs_2 =>
    (Option.bind (cs_2[0]?) fun u_3 =>
    (Option.bind (intOf? .u64 (some u_3)) fun x_4 =>
    (Option.bind (cs_2[1]?) fun u_5 =>
    (Option.bind (boolOf? (some u_5)) fun q_6 =>
    (if (x_4 == x6) = true
    then (Option.bind (L.call 31 [.pointer x3] r_1.2) fun r_7 =>
      (Option.bind (intOf? .i64 (some r_7.1)) fun x_8 =>
      (if (x_8 == (IntKind.wrap .i64 x6)) = true
      then (Option.bind (L.call 30 [.pointer x3] r_7.2) fun r_9 =>
        (Option.bind (intOf? .i64 (some r_9.1)) fun x_10 =>
        (if (x_10 == (IntKind.wrap .i64 ((Int.ofNat x0n) + 1))) = true
        then (Option.bind (L.call 33 [.pointer x3, .int .i64 0, .int .i64 3] r_9.2) fun r_11 =>
          (Option.bind (sliceOf? (some r_11.1)) fun s_12 =>
          (Option.bind (L.call 34 [.slice s_12.1 s_12.2.1 s_12.2.2, .slice (some ⟨(List.length r_11.2), 0, none⟩) 3 1] (r_11.2 ++ [AObj.cells [.int .u64 0, .int .u64 x6, .int .u64 0] ⟨false, 0⟩])) fun r_13 =>
          (Option.bind (boolOf? (some r_13.1)) fun q_14 =>
          (if q_14 = true
          then (Option.bind (L.call 23 [] []) fun r_15 =>
            (Option.bind (boolOf? (some r_15.1)) fun q_16 =>
            some (.bool q_16, r_13.2)))
          else some (.bool false, r_13.2))))))
        else some (.bool false, r_9.2))))
      else some (.bool false, r_7.2))))
    else some (.bool false, r_1.2)))))))) := by
  subst hP6_79; exact Eq.mp (by kernel_rfl) (G6_79 L  x0 x0n x0c x3 x6 M)
theorem P6_79_eq (L : Rec) (x0 : Option Addr) (x0n : Nat) (x0c : Nat) (x3 : Option Addr) (x6 : Int) (M : AMem) : P6_79 L x0 x0n x0c x3 x6 M =
  (Option.bind (L.call 27 [.pointer x3, .int .i64 1] M) fun r_1 =>
    (Option.bind (tupOf? 2 r_1.1) fun cs_2 =>
    (Option.bind (cs_2[0]?) fun u_3 =>
    (Option.bind (intOf? .u64 (some u_3)) fun x_4 =>
    (Option.bind (cs_2[1]?) fun u_5 =>
    (Option.bind (boolOf? (some u_5)) fun q_6 =>
    (if (x_4 == x6) = true
    then (Option.bind (L.call 31 [.pointer x3] r_1.2) fun r_7 =>
      (Option.bind (intOf? .i64 (some r_7.1)) fun x_8 =>
      (if (x_8 == (IntKind.wrap .i64 x6)) = true
      then (Option.bind (L.call 30 [.pointer x3] r_7.2) fun r_9 =>
        (Option.bind (intOf? .i64 (some r_9.1)) fun x_10 =>
        (if (x_10 == (IntKind.wrap .i64 ((Int.ofNat x0n) + 1))) = true
        then (Option.bind (L.call 33 [.pointer x3, .int .i64 0, .int .i64 3] r_9.2) fun r_11 =>
          (Option.bind (sliceOf? (some r_11.1)) fun s_12 =>
          (Option.bind (L.call 34 [.slice s_12.1 s_12.2.1 s_12.2.2, .slice (some ⟨(List.length r_11.2), 0, none⟩) 3 1] (r_11.2 ++ [AObj.cells [.int .u64 0, .int .u64 x6, .int .u64 0] ⟨false, 0⟩])) fun r_13 =>
          (Option.bind (boolOf? (some r_13.1)) fun q_14 =>
          (if q_14 = true
          then (Option.bind (L.call 23 [] []) fun r_15 =>
            (Option.bind (boolOf? (some r_15.1)) fun q_16 =>
            some (.bool q_16, r_13.2)))
          else some (.bool false, r_13.2))))))
        else some (.bool false, r_9.2))))
      else some (.bool false, r_7.2))))
    else some (.bool false, r_1.2)))))))) := QP6_79_eq L P6_79 (Classical.choose_spec XP6_79) x0 x0n x0c x3 x6 M
theorem GE6 (L : Rec) (b6_30 c6_79 : ACode) (x0 : Option Addr) (x0n : Nat) (x0c : Nat) (M : AMem) : enterF L ⟨108, [.tmp 2], .seq (.ops o6_1) (.seq (.seq (.ops o6_4) (.cond (.tmp 16) (.seq (.ops o6_7) (.ret)) (.skip))) (.seq (.ops o6_11) (.seq (.seq (.ops o6_14) (.cond (.tmp 20) (.seq (.ops o6_17) (.ret)) (.skip))) (.seq (.ops o6_21) (.seq (.ops o6_23) (.seq (.ops o6_25) (.seq (.seq (.ops o6_28) (.block 0 (.clear [1, 2, 8, 9, 10, 11, 12, 13, 14, 15, 16, 17, 18, 19, 20, 21, 22, 23, 24, 25, 26, 27, 28, 29, 30, 31, 32, 33, 34, 35, 36, 37, 38, 39, 40, 41, 42, 43, 44, 45, 46, 47, 48, 49, 50, 51, 52, 53, 54, 55, 56, 57, 58, 59, 60, 61, 62, 63, 64, 65, 66, 67, 68, 69, 70, 71, 72, 73, 74, 75, 76, 77, 78, 79, 80, 81, 82, 83, 84, 85, 86, 87, 88, 89, 90, 91, 92, 93, 94, 95, 96, 97, 98, 99, 100, 101, 102, 103, 104, 105, 106, 107] (.loop b6_30)))) (.clear [1, 2, 4, 5, 7, 8, 9, 10, 11, 12, 13, 14, 15, 16, 17, 18, 19, 20, 21, 22, 23, 24, 25, 26, 27, 28, 29, 30, 31, 32, 33, 34, 35, 36, 37, 38, 39, 40, 41, 42, 43, 44, 45, 46, 47, 48, 49, 50, 51, 52, 53, 54, 55, 56, 57, 58, 59, 60, 61, 62, 63, 64, 65, 66, 67, 68, 69, 70, 71, 72, 73, 74, 75, 76, 77, 78, 79, 80, 81, 82, 83, 84, 85, 86, 87, 88, 89, 90, 91, 92, 93, 94, 95, 96, 97, 98, 99, 100, 101, 102, 103, 104, 105, 106, 107] c6_79))))))))⟩ [.slice x0 x0n x0c] M =
  (if (decide ((Int.ofNat x0n) > 100)) = true
    then (Option.bind (L.call 23 [] []) fun r_1 =>
      (Option.bind (boolOf? (some r_1.1)) fun q_2 =>
      some (.bool q_2, M)))
    else (Option.bind (L.call 24 [.int .i64 3] M) fun r_3 =>
      (Option.bind (ptrOf? (some r_3.1)) fun p_4 =>
      (if (Option.isNone p_4) = true
      then some (.bool false, r_3.2)
      else L.loop b6_30 (blockK 0 (seqK (code L (.clear [1, 2, 4, 5, 7, 8, 9, 10, 11, 12, 13, 14, 15, 16, 17, 18, 19, 20, 21, 22, 23, 24, 25, 26, 27, 28, 29, 30, 31, 32, 33, 34, 35, 36, 37, 38, 39, 40, 41, 42, 43, 44, 45, 46, 47, 48, 49, 50, 51, 52, 53, 54, 55, 56, 57, 58, 59, 60, 61, 62, 63, 64, 65, 66, 67, 68, 69, 70, 71, 72, 73, 74, 75, 76, 77, 78, 79, 80, 81, 82, 83, 84, 85, 86, 87, 88, 89, 90, 91, 92, 93, 94, 95, 96, 97, 98, 99, 100, 101, 102, 103, 104, 105, 106, 107] c6_79) (retK [.tmp 2])) (retK [.tmp 2]))) [.slice x0 x0n x0c, junk, junk, .pointer p_4, .pointer (some ⟨(List.length r_3.2), 0, none⟩), .pointer (some ⟨(List.length (r_3.2 ++ [AObj.cells [.int .u64 0, .int .u64 0, .int .u64 0, .int .u64 0, .int .u64 0, .int .u64 0, .int .u64 0, .int .u64 0] ⟨false, 0⟩])), 0, none⟩), .int .u64 0, .int .i64 0, junk, junk, junk, junk, junk, junk, junk, junk, junk, junk, junk, junk, junk, junk, junk, junk, junk, junk, junk, junk, junk, junk, junk, junk, junk, junk, junk, junk, junk, junk, junk, junk, junk, junk, junk, junk, junk, junk, junk, junk, junk, junk, junk, junk, junk, junk, junk, junk, junk, junk, junk, junk, junk, junk, junk, junk, junk, junk, junk, junk, junk, junk, junk, junk, junk, junk, junk, junk, junk, junk, junk, junk, junk, junk, junk, junk, junk, junk, junk, junk, junk, junk, junk, junk, junk, junk, junk, junk, junk, junk, junk, junk, junk, junk, junk, junk, junk, junk, junk, junk] ((r_3.2 ++ [AObj.cells [.int .u64 0, .int .u64 0, .int .u64 0, .int .u64 0, .int .u64 0, .int .u64 0, .int .u64 0, .int .u64 0] ⟨false, 0⟩]) ++ [AObj.cells [.bool false, .bool false, .bool false, .bool false, .bool false, .bool false, .bool false, .bool false] ⟨false, 0⟩]))))) := by kernel_rfl
theorem QE6 (L : Rec) (P6_30 : Rec → (Option Addr) → Nat → Nat → (Option Addr) → Nat → Nat → Int → Int → AMem → Res) (hP6_30 : P6_30 = fun (L : Rec) (x0 : Option Addr) (x0n : Nat) (x0c : Nat) (x3 : Option Addr) (x4 : Nat) (x5 : Nat) (x6 : Int) (x7 : Int) (M : AMem) => L.loop b6_30 (k6_30 L) (s6_30 x0 x0n x0c x3 x4 x5 x6 x7 M) M) (x0 : Option Addr) (x0n : Nat) (x0c : Nat) (M : AMem) : enterF L a6 [.slice x0 x0n x0c] M =
  (if (decide ((Int.ofNat x0n) > 100)) = true
    then (Option.bind (L.call 23 [] []) fun r_1 =>
      (Option.bind (boolOf? (some r_1.1)) fun q_2 =>
      some (.bool q_2, M)))
    else (Option.bind (L.call 24 [.int .i64 3] M) fun r_3 =>
      (Option.bind (ptrOf? (some r_3.1)) fun p_4 =>
      (if (Option.isNone p_4) = true
      then some (.bool false, r_3.2)
      else P6_30 L x0 x0n x0c p_4 (List.length r_3.2) (List.length (r_3.2 ++ [AObj.cells [.int .u64 0, .int .u64 0, .int .u64 0, .int .u64 0, .int .u64 0, .int .u64 0, .int .u64 0, .int .u64 0] ⟨false, 0⟩])) 0 0 ((r_3.2 ++ [AObj.cells [.int .u64 0, .int .u64 0, .int .u64 0, .int .u64 0, .int .u64 0, .int .u64 0, .int .u64 0, .int .u64 0] ⟨false, 0⟩]) ++ [AObj.cells [.bool false, .bool false, .bool false, .bool false, .bool false, .bool false, .bool false, .bool false] ⟨false, 0⟩]))))) := by
  subst hP6_30; exact Eq.mp (by kernel_rfl) (GE6 L b6_30 c6_79 x0 x0n x0c M)
theorem E6 (L : Rec) (x0 : Option Addr) (x0n : Nat) (x0c : Nat) (M : AMem) : enterF L a6 [.slice x0 x0n x0c] M =
  (if (decide ((Int.ofNat x0n) > 100)) = true
    then (Option.bind (L.call 23 [] []) fun r_1 =>
      (Option.bind (boolOf? (some r_1.1)) fun q_2 =>
      some (.bool q_2, M)))
    else (Option.bind (L.call 24 [.int .i64 3] M) fun r_3 =>
      (Option.bind (ptrOf? (some r_3.1)) fun p_4 =>
      (if (Option.isNone p_4) = true
      then some (.bool false, r_3.2)
      else P6_30 L x0 x0n x0c p_4 (List.length r_3.2) (List.length (r_3.2 ++ [AObj.cells [.int .u64 0, .int .u64 0, .int .u64 0, .int .u64 0, .int .u64 0, .int .u64 0, .int .u64 0, .int .u64 0] ⟨false, 0⟩])) 0 0 ((r_3.2 ++ [AObj.cells [.int .u64 0, .int .u64 0, .int .u64 0, .int .u64 0, .int .u64 0, .int .u64 0, .int .u64 0, .int .u64 0] ⟨false, 0⟩]) ++ [AObj.cells [.bool false, .bool false, .bool false, .bool false, .bool false, .bool false, .bool false, .bool false] ⟨false, 0⟩]))))) := QE6 L P6_30 (Classical.choose_spec XP6_30) x0 x0n x0c M
end Go.Proofs.Ytaepdefnomcllaa
