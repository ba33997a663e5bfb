/- What the pieces of some functions come to. -/
import Derived.Test.YtaepdefnomcllaaCode
set_option linter.unusedVariables false
set_option maxRecDepth 100000
namespace Go.Proofs.Ytaepdefnomcllaa
open Go Go.Ax
/-! #### morton.Of -/
theorem GE39 (L : Rec) (x0 : Int) (x1 : Int) : enterF L ⟨16, [.tmp 4], .seq (.ops o39_1) (.seq (.seq (.ops o39_4) (.cond (.tmp 9) (.seq (.ops o39_7) (.ret)) (.skip))) (.seq (.ops o39_11) (.ret)))⟩ [.int .i64 x0, .int .i64 x1] [] =
  (Option.bind (L.call 53 [.int .i64 65536, .slice (some ⟨0, 0, none⟩) 2 1] ([AObj.cells [.int .i64 x0, .int .i64 x1] ⟨false, 0⟩] : AMem)) fun r_1 =>
    (Option.bind (boolOf? (some r_1.1)) fun q_2 =>
    (if (!q_2) = true
    then some (.int .i64 (-1), r_1.2)
    else (Option.bind (L.call 54 [.int .i64 x0] []) fun r_3 =>
      (Option.bind (intOf? .i64 (some r_3.1)) fun x_4 =>
      (Option.bind (L.call 54 [.int .i64 x1] []) fun r_5 =>
      (Option.bind (intOf? .i64 (some r_5.1)) fun x_6 =>
      some (.int .i64 (IntKind.wrap .i64 (Int.ofNat (BitVec.toNat (BitVec.ofInt (IntKind.bits .i64) x_4 ||| BitVec.ofInt (IntKind.bits .i64) (IntKind.wrap .i64 (x_6 * 2 ^ 1)))))), r_1.2)))))))) := by kernel_rfl
theorem E39 (L : Rec) (x0 : Int) (x1 : Int) : enterF L a39 [.int .i64 x0, .int .i64 x1] [] =
  (Option.bind (L.call 53 [.int .i64 65536, .slice (some ⟨0, 0, none⟩) 2 1] ([AObj.cells [.int .i64 x0, .int .i64 x1] ⟨false, 0⟩] : AMem)) fun r_1 =>
    (Option.bind (boolOf? (some r_1.1)) fun q_2 =>
    (if (!q_2) = true
    then some (.int .i64 (-1), r_1.2)
    else (Option.bind (L.call 54 [.int .i64 x0] []) fun r_3 =>
      (Option.bind (intOf? .i64 (some r_3.1)) fun x_4 =>
      (Option.bind (L.call 54 [.int .i64 x1] []) fun r_5 =>
      (Option.bind (intOf? .i64 (some r_5.1)) fun x_6 =>
      some (.int .i64 (IntKind.wrap .i64 (Int.ofNat (BitVec.toNat (BitVec.ofInt (IntKind.bits .i64) x_4 ||| BitVec.ofInt (IntKind.bits .i64) (IntKind.wrap .i64 (x_6 * 2 ^ 1)))))), r_1.2)))))))) := Eq.mp (by kernel_rfl) (GE39 L  x0 x1)
/-! #### morton.Back -/
theorem GE40 (L : Rec) (x0 : Int) : enterF L ⟨13, [.tmp 2, .tmp 3], .seq (.ops o40_1) (.seq (.seq (.ops o40_4) (.cond (.tmp 7) (.seq (.ops o40_7) (.ret)) (.skip))) (.seq (.ops o40_11) (.ret)))⟩ [.int .i64 x0] [] =
  (Option.bind (L.call 53 [.int .i64 4294967296, .slice (some ⟨0, 0, none⟩) 1 1] ([AObj.cells [.int .i64 x0] ⟨false, 0⟩] : AMem)) fun r_1 =>
    (Option.bind (boolOf? (some r_1.1)) fun q_2 =>
    (if (!q_2) = true
    then some (.tuple #[.int .i64 (-1), .int .i64 (-1)], r_1.2)
    else (Option.bind (L.call 55 [.int .i64 x0] []) fun r_3 =>
      (Option.bind (intOf? .i64 (some r_3.1)) fun x_4 =>
      (Option.bind (L.call 55 [.int .i64 (Int.fdiv x0 (2 ^ 1))] []) fun r_5 =>
      (Option.bind (intOf? .i64 (some r_5.1)) fun x_6 =>
      some (.tuple #[.int .i64 x_4, .int .i64 x_6], r_1.2)))))))) := by kernel_rfl
theorem E40 (L : Rec) (x0 : Int) : enterF L a40 [.int .i64 x0] [] =
  (Option.bind (L.call 53 [.int .i64 4294967296, .slice (some ⟨0, 0, none⟩) 1 1] ([AObj.cells [.int .i64 x0] ⟨false, 0⟩] : AMem)) fun r_1 =>
    (Option.bind (boolOf? (some r_1.1)) fun q_2 =>
    (if (!q_2) = true
    then some (.tuple #[.int .i64 (-1), .int .i64 (-1)], r_1.2)
    else (Option.bind (L.call 55 [.int .i64 x0] []) fun r_3 =>
      (Option.bind (intOf? .i64 (some r_3.1)) fun x_4 =>
      (Option.bind (L.call 55 [.int .i64 (Int.fdiv x0 (2 ^ 1))] []) fun r_5 =>
      (Option.bind (intOf? .i64 (some r_5.1)) fun x_6 =>
      some (.tuple #[.int .i64 x_4, .int .i64 x_6], r_1.2)))))))) := Eq.mp (by kernel_rfl) (GE40 L  x0)
/-! #### morton.Tile -/
theorem GE41 (L : Rec) (x0 : Int) (x1 : Int) : enterF L ⟨19, [.tmp 4], .seq (.ops o41_1) (.seq (.seq (.ops o41_4) (.cond (.tmp 14) (.seq (.ops o41_7) (.ret)) (.skip))) (.seq (.ops o41_11) (.ret)))⟩ [.int .i64 x0, .int .i64 x1] [] =
  (Option.bind (L.call 53 [.int .i64 4294967296, .slice (some ⟨0, 0, none⟩) 1 1] ([AObj.cells [.int .i64 x0] ⟨false, 0⟩] : AMem)) fun r_1 =>
    (Option.bind (boolOf? (some r_1.1)) fun q_2 =>
    (if (!q_2) = true
    then some (.int .i64 (-1), r_1.2)
    else (Option.bind (L.call 53 [.int .i64 17, .slice (some ⟨(List.length r_1.2), 0, none⟩) 1 1] (r_1.2 ++ [AObj.cells [.int .i64 x1] ⟨false, 0⟩])) fun r_3 =>
      (Option.bind (boolOf? (some r_3.1)) fun q_4 =>
      (if (!q_4) = true
      then some (.int .i64 (-1), r_3.2)
      else (if (IntKind.wrap .i64 (2 * x1)) < 0
        then none
        else some (.int .i64 (Int.fdiv x0 (2 ^ (min (Int.toNat (IntKind.wrap .i64 (2 * x1))) (IntKind.bits .i64)))), r_3.2)))))))) := by kernel_rfl
theorem E41 (L : Rec) (x0 : Int) (x1 : Int) : enterF L a41 [.int .i64 x0, .int .i64 x1] [] =
  (Option.bind (L.call 53 [.int .i64 4294967296, .slice (some ⟨0, 0, none⟩) 1 1] ([AObj.cells [.int .i64 x0] ⟨false, 0⟩] : AMem)) fun r_1 =>
    (Option.bind (boolOf? (some r_1.1)) fun q_2 =>
    (if (!q_2) = true
    then some (.int .i64 (-1), r_1.2)
    else (Option.bind (L.call 53 [.int .i64 17, .slice (some ⟨(List.length r_1.2), 0, none⟩) 1 1] (r_1.2 ++ [AObj.cells [.int .i64 x1] ⟨false, 0⟩])) fun r_3 =>
      (Option.bind (boolOf? (some r_3.1)) fun q_4 =>
      (if (!q_4) = true
      then some (.int .i64 (-1), r_3.2)
      else (if (IntKind.wrap .i64 (2 * x1)) < 0
        then none
        else some (.int .i64 (Int.fdiv x0 (2 ^ (min (Int.toNat (IntKind.wrap .i64 (2 * x1))) (IntKind.bits .i64)))), r_3.2)))))))) := Eq.mp (by kernel_rfl) (GE41 L  x0 x1)
/-! #### morton.within -/
noncomputable def k53_6 (L : Rec) : KT := blockK 0 (seqK (code L (.clear [0, 1, 2, 3, 4, 5, 6, 7, 8, 9, 10, 11, 12, 13, 14, 15, 16, 17, 18, 19, 20] c53_25) (retK [.tmp 4])) (retK [.tmp 4]))
def s53_6 (x0 : Int) (x7 : Option Addr) (x7n : Nat) (x7c : Nat) (x8 : Int) (x9 : Int) (M : AMem) : List Value := [.int .i64 x0, junk, junk, junk, junk, junk, junk, .slice x7 x7n x7c, .int .i64 x8, .int .i64 x9, junk, junk, junk, junk, junk, junk, junk, junk, junk, junk, junk]
theorem XP53_6 : ∃ P : Rec → Int → (Option Addr) → Nat → Nat → Int → Int → AMem → Res, P = fun (L : Rec) (x0 : Int) (x7 : Option Addr) (x7n : Nat) (x7c : Nat) (x8 : Int) (x9 : Int) (M : AMem) => L.loop b53_6 (k53_6 L) (s53_6 x0 x7 x7n x7c x8 x9 M) M := ⟨_, rfl⟩
noncomputable def P53_6 : Rec → Int → (Option Addr) → Nat → Nat → Int → Int → AMem → Res := Classical.choose XP53_6
noncomputable def k53_24 (L : Rec) : KT := postK [1, 2, 3, 4, 5, 6, 10, 11, 12, 13, 14, 15, 16, 17, 18, 19, 20] (loopK L b53_6 (blockK 0 (seqK (code L (.clear [0, 1, 2, 3, 4, 5, 6, 7, 8, 9, 10, 11, 12, 13, 14, 15, 16, 17, 18, 19, 20] c53_25) (retK [.tmp 4])) (retK [.tmp 4]))))
def s53_24 (x0 : Int) (x7 : Option Addr) (x7n : Nat) (x7c : Nat) (x8 : Int) (x9 : Int) (M : AMem) : List Value := [.int .i64 x0, junk, junk, junk, junk, junk, junk, .slice x7 x7n x7c, .int .i64 x8, .int .i64 x9, junk, junk, junk, junk, junk, junk, junk, junk, junk, junk, junk]
theorem XP53_24 : ∃ P : Rec → Int → (Option Addr) → Nat → Nat → Int → Int → AMem → Res, P = fun (L : Rec) (x0 : Int) (x7 : Option Addr) (x7n : Nat) (x7c : Nat) (x8 : Int) (x9 : Int) (M : AMem) => code L c53_24 (k53_24 L) (s53_24 x0 x7 x7n x7c x8 x9 M) M := ⟨_, rfl⟩
noncomputable def P53_24 : Rec → Int → (Option Addr) → Nat → Nat → Int → Int → AMem → Res := Classical.choose XP53_24
noncomputable def k53_25 (L : Rec) : KT := retK [.tmp 4]
def s53_25 (M : AMem) : List Value := [junk, junk, junk, junk, junk, junk, junk, junk, junk, junk, junk, junk, junk, junk, junk, junk, junk, junk, junk, junk, junk]
theorem XP53_25 : ∃ P : Rec → AMem → Res, P = fun (L : Rec) (M : AMem) => code L c53_25 (k53_25 L) (s53_25 M) M := ⟨_, rfl⟩
noncomputable def P53_25 : Rec → AMem → Res := Classical.choose XP53_25
theorem G53_6 (L : Rec) (b53_6 c53_24 c53_25 : ACode) (x0 : Int) (x7 : Option Addr) (x7n : Nat) (x7c : Nat) (x8 : Int) (x9 : Int) (M : AMem) : code L (.post (.seq (.ops o53_8) (.seq (.cond (.tmp 10) (.skip) (.exit 0)) (.seq (.block 1 (.seq (.ops o53_16) (.seq (.ops o53_18) (.cond (.tmp 19) (.seq (.ops o53_21) (.ret)) (.skip))))) (.clear [1, 2, 3, 4, 5, 6, 10, 11, 12, 13, 14, 15, 16, 17, 18, 19, 20] c53_24)))) [1, 2, 3, 4, 5, 6, 10, 11, 12, 13, 14, 15, 16, 17, 18, 19, 20]) (loopK L b53_6 (blockK 0 (seqK (code L (.clear [0, 1, 2, 3, 4, 5, 6, 7, 8, 9, 10, 11, 12, 13, 14, 15, 16, 17, 18, 19, 20] c53_25) (retK [.tmp 4])) (retK [.tmp 4])))) [.int .i64 x0, junk, junk, junk, junk, junk, junk, .slice x7 x7n x7c, .int .i64 x8, .int .i64 x9, junk, junk, junk, junk, junk, junk, junk, junk, junk, junk, junk] M =
  (if (decide (x9 < x8)) = true
    then (match x7 with
      | some a_1 => (if 0 ≤ x9 ∧ x9 < (Int.ofNat x7n)
        then (Option.bind (intOf? .i64 (AMem.ld M a_1.block (a_1.off + ((Int.toNat x9) * 1)))) fun x_2 =>
          (if (decide (x_2 < 0)) = true
          then some (.bool false, M)
          else (if (decide (x_2 ≥ x0)) = true
            then some (.bool false, M)
            else code L c53_24 (postK [1, 2, 3, 4, 5, 6, 10, 11, 12, 13, 14, 15, 16, 17, 18, 19, 20] (loopK L b53_6 (blockK 0 (seqK (code L (.clear [0, 1, 2, 3, 4, 5, 6, 7, 8, 9, 10, 11, 12, 13, 14, 15, 16, 17, 18, 19, 20] c53_25) (retK [.tmp 4])) (retK [.tmp 4]))))) [.int .i64 x0, junk, junk, junk, junk, junk, junk, .slice x7 x7n x7c, .int .i64 x8, .int .i64 x9, junk, junk, junk, junk, junk, junk, junk, junk, junk, junk, junk] M)))
        else none)
      | none => none)
    else code L c53_25 (retK [.tmp 4]) [junk, junk, junk, junk, junk, junk, junk, junk, junk, junk, junk, junk, junk, junk, junk, junk, junk, junk, junk, junk, junk] M) := by kernel_rfl
theorem QP53_6_eq (L : Rec) (hL : ∀ b K t A, L.loop b K t A = code L b (loopK L b K) t A) (P53_6 : Rec → Int → (Option Addr) → Nat → Nat → Int → Int → AMem → Res) (hP53_6 : P53_6 = fun (L : Rec) (x0 : Int) (x7 : Option Addr) (x7n : Nat) (x7c : Nat) (x8 : Int) (x9 : Int) (M : AMem) => L.loop b53_6 (k53_6 L) (s53_6 x0 x7 x7n x7c x8 x9 M) M) (P53_24 : Rec → Int → (Option Addr) → Nat → Nat → Int → Int → AMem → Res) (hP53_24 : P53_24 = fun (L : Rec) (x0 : Int) (x7 : Option Addr) (x7n : Nat) (x7c : Nat) (x8 : Int) (x9 : Int) (M : AMem) => code L c53_24 (k53_24 L) (s53_24 x0 x7 x7n x7c x8 x9 M) M) (P53_25 : Rec → AMem → Res) (hP53_25 : P53_25 = fun (L : Rec) (M : AMem) => code L c53_25 (k53_25 L) (s53_25 M) M) (x0 : Int) (x7 : Option Addr) (x7n : Nat) (x7c : Nat) (x8 : Int) (x9 : Int) (M : AMem) : P53_6 L x0 x7 x7n x7c x8 x9 M =
  (if (decide (x9 < x8)) = true
    then (match x7 with
      | some a_1 => (if 0 ≤ x9 ∧ x9 < (Int.ofNat x7n)
        then (Option.bind (intOf? .i64 (AMem.ld M a_1.block (a_1.off + ((Int.toNat x9) * 1)))) fun x_2 =>
          (if (decide (x_2 < 0)) = true
          then some (.bool false, M)
          else (if (decide (x_2 ≥ x0)) = true
            then some (.bool false, M)
            else P53_24 L x0 x7 x7n x7c x8 x9 M)))
        else none)
      | none => none)
    else P53_25 L M) := by
  subst hP53_6; subst hP53_24; subst hP53_25; exact Eq.trans (b := code L b53_6 (loopK L b53_6 (k53_6 L)) (s53_6 x0 x7 x7n x7c x8 x9 M) M) (hL b53_6 (k53_6 L) (s53_6 x0 x7 x7n x7c x8 x9 M) M) (Eq.mp (by kernel_rfl) (G53_6 L b53_6 c53_24 c53_25 x0 x7 x7n x7c x8 x9 M))
theorem P53_6_eq (L : Rec) (hL : ∀ b K t A, L.loop b K t A = code L b (loopK L b K) t A) (x0 : Int) (x7 : Option Addr) (x7n : Nat) (x7c : Nat) (x8 : Int) (x9 : Int) (M : AMem) : P53_6 L x0 x7 x7n x7c x8 x9 M =
  (if (decide (x9 < x8)) = true
    then (match x7 with
      | some a_1 => (if 0 ≤ x9 ∧ x9 < (Int.ofNat x7n)
        then (Option.bind (intOf? .i64 (AMem.ld M a_1.block (a_1.off + ((Int.toNat x9) * 1)))) fun x_2 =>
          (if (decide (x_2 < 0)) = true
          then some (.bool false, M)
          else (if (decide (x_2 ≥ x0)) = true
            then some (.bool false, M)
            else P53_24 L x0 x7 x7n x7c x8 x9 M)))
        else none)
      | none => none)
    else P53_25 L M) := QP53_6_eq L hL P53_6 (Classical.choose_spec XP53_6) P53_24 (Classical.choose_spec XP53_24) P53_25 (Classical.choose_spec XP53_25) x0 x7 x7n x7c x8 x9 M
theorem G53_24 (L : Rec) (b53_6 c53_25 : ACode) (x0 : Int) (x7 : Option Addr) (x7n : Nat) (x7c : Nat) (x8 : Int) (x9 : Int) (M : AMem) : code L (.ops o53_24) (postK [1, 2, 3, 4, 5, 6, 10, 11, 12, 13, 14, 15, 16, 17, 18, 19, 20] (loopK L b53_6 (blockK 0 (seqK (code L (.clear [0, 1, 2, 3, 4, 5, 6, 7, 8, 9, 10, 11, 12, 13, 14, 15, 16, 17, 18, 19, 20] c53_25) (retK [.tmp 4])) (retK [.tmp 4]))))) [.int .i64 x0, junk, junk, junk, junk, junk, junk, .slice x7 x7n x7c, .int .i64 x8, .int .i64 x9, junk, junk, junk, junk, junk, junk, junk, junk, junk, junk, junk] M =
  L.loop b53_6 (blockK 0 (seqK (code L (.clear [0, 1, 2, 3, 4, 5, 6, 7, 8, 9, 10, 11, 12, 13, 14, 15, 16, 17, 18, 19, 20] c53_25) (retK [.tmp 4])) (retK [.tmp 4]))) [.int .i64 x0, junk, junk, junk, junk, junk, junk, .slice x7 x7n x7c, .int .i64 x8, .int .i64 (IntKind.wrap .i64 (x9 + 1)), junk, junk, junk, junk, junk, junk, junk, junk, junk, junk, junk] M := by kernel_rfl
theorem QP53_24_eq (L : Rec) (P53_6 : Rec → Int → (Option Addr) → Nat → Nat → Int → Int → AMem → Res) (hP53_6 : P53_6 = fun (L : Rec) (x0 : Int) (x7 : Option Addr) (x7n : Nat) (x7c : Nat) (x8 : Int) (x9 : Int) (M : AMem) => L.loop b53_6 (k53_6 L) (s53_6 x0 x7 x7n x7c x8 x9 M) M) (P53_24 : Rec → Int → (Option Addr) → Nat → Nat → Int → Int → AMem → Res) (hP53_24 : P53_24 = fun (L : Rec) (x0 : Int) (x7 : Option Addr) (x7n : Nat) (x7c : Nat) (x8 : Int) (x9 : Int) (M : AMem) => code L c53_24 (k53_24 L) (s53_24 x0 x7 x7n x7c x8 x9 M) M) (x0 : Int) (x7 : Option Addr) (x7n : Nat) (x7c : Nat) (x8 : Int) (x9 : Int) (M : AMem) : P53_24 L x0 x7 x7n x7c x8 x9 M =
  P53_6 L x0 x7 x7n x7c x8 (IntKind.wrap .i64 (x9 + 1)) M := by
  subst hP53_6; subst hP53_24; exact Eq.mp (by kernel_rfl) (G53_24 L b53_6 c53_25 x0 x7 x7n x7c x8 x9 M)
theorem P53_24_eq (L : Rec) (x0 : Int) (x7 : Option Addr) (x7n : Nat) (x7c : Nat) (x8 : Int) (x9 : Int) (M : AMem) : P53_24 L x0 x7 x7n x7c x8 x9 M =
  P53_6 L x0 x7 x7n x7c x8 (IntKind.wrap .i64 (x9 + 1)) M := QP53_24_eq L P53_6 (Classical.choose_spec XP53_6) P53_24 (Classical.choose_spec XP53_24) x0 x7 x7n x7c x8 x9 M
theorem G53_25 (L : Rec) (M : AMem) : code L (.seq (.ops o53_26) (.ret)) (retK [.tmp 4]) [junk, junk, junk, junk, junk, junk, junk, junk, junk, junk, junk, junk, junk, junk, junk, junk, junk, junk, junk, junk, junk] M =
  some (.bool true, M) := by kernel_rfl
theorem QP53_25_eq (L : Rec) (P53_25 : Rec → AMem → Res) (hP53_25 : P53_25 = fun (L : Rec) (M : AMem) => code L c53_25 (k53_25 L) (s53_25 M) M) (M : AMem) : P53_25 L M =
  some (.bool true, M) := by
  subst hP53_25; exact Eq.mp (by kernel_rfl) (G53_25 L  M)
theorem P53_25_eq (L : Rec) (M : AMem) : P53_25 L M =
  some (.bool true, M) := QP53_25_eq L P53_25 (Classical.choose_spec XP53_25) M
theorem GE53 (L : Rec) (b53_6 c53_25 : ACode) (x0 : Int) (x1 : Option Addr) (x1n : Nat) (x1c : Nat) (M : AMem) : enterF L ⟨21, [.tmp 4], .seq (.ops o53_1) (.seq (.seq (.ops o53_4) (.block 0 (.clear [1, 2, 3, 4, 5, 6, 10, 11, 12, 13, 14, 15, 16, 17, 18, 19, 20] (.loop b53_6)))) (.clear [0, 1, 2, 3, 4, 5, 6, 7, 8, 9, 10, 11, 12, 13, 14, 15, 16, 17, 18, 19, 20] c53_25))⟩ [.int .i64 x0, .slice x1 x1n x1c] M =
  L.loop b53_6 (blockK 0 (seqK (code L (.clear [0, 1, 2, 3, 4, 5, 6, 7, 8, 9, 10, 11, 12, 13, 14, 15, 16, 17, 18, 19, 20] c53_25) (retK [.tmp 4])) (retK [.tmp 4]))) [.int .i64 x0, junk, junk, junk, junk, junk, junk, .slice x1 x1n x1c, .int .i64 (Int.ofNat x1n), .int .i64 0, junk, junk, junk, junk, junk, junk, junk, junk, junk, junk, junk] M := by kernel_rfl
theorem QE53 (L : Rec) (P53_6 : Rec → Int → (Option Addr) → Nat → Nat → Int → Int → AMem → Res) (hP53_6 : P53_6 = fun (L : Rec) (x0 : Int) (x7 : Option Addr) (x7n : Nat) (x7c : Nat) (x8 : Int) (x9 : Int) (M : AMem) => L.loop b53_6 (k53_6 L) (s53_6 x0 x7 x7n x7c x8 x9 M) M) (x0 : Int) (x1 : Option Addr) (x1n : Nat) (x1c : Nat) (M : AMem) : enterF L a53 [.int .i64 x0, .slice x1 x1n x1c] M =
  P53_6 L x0 x1 x1n x1c (Int.ofNat x1n) 0 M := by
  subst hP53_6; exact Eq.mp (by kernel_rfl) (GE53 L b53_6 c53_25 x0 x1 x1n x1c M)
theorem E53 (L : Rec) (x0 : Int) (x1 : Option Addr) (x1n : Nat) (x1c : Nat) (M : AMem) : enterF L a53 [.int .i64 x0, .slice x1 x1n x1c] M =
  P53_6 L x0 x1 x1n x1c (Int.ofNat x1n) 0 M := QE53 L P53_6 (Classical.choose_spec XP53_6) x0 x1 x1n x1c M
/-! #### morton.spread -/
theorem GE54 (L : Rec) (x0 : Int) : enterF L ⟨23, [.tmp 2], .seq (.ops o54_1) (.seq (.ops o54_3) (.seq (.ops o54_5) (.seq (.ops o54_7) (.seq (.ops o54_9) (.ret)))))⟩ [.int .i64 x0] [] =
  some (.int .i64 (IntKind.wrap .i64 (Int.ofNat (BitVec.toNat (BitVec.ofInt (IntKind.bits .i64) (IntKind.wrap .i64 (Int.ofNat (BitVec.toNat (BitVec.ofInt (IntKind.bits .i64) (IntKind.wrap .i64 (Int.ofNat (BitVec.toNat (BitVec.ofInt (IntKind.bits .i64) (IntKind.wrap .i64 (Int.ofNat (BitVec.toNat (BitVec.ofInt (IntKind.bits .i64) (IntKind.wrap .i64 (Int.ofNat (BitVec.toNat (BitVec.ofInt (IntKind.bits .i64) (IntKind.wrap .i64 (Int.ofNat (BitVec.toNat (BitVec.ofInt (IntKind.bits .i64) (IntKind.wrap .i64 (Int.ofNat (BitVec.toNat (BitVec.ofInt (IntKind.bits .i64) (IntKind.wrap .i64 (Int.ofNat (BitVec.toNat (BitVec.ofInt (IntKind.bits .i64) x0 ||| BitVec.ofInt (IntKind.bits .i64) (IntKind.wrap .i64 (x0 * 2 ^ 8)))))) &&& BitVec.ofInt (IntKind.bits .i64) 16711935)))) ||| BitVec.ofInt (IntKind.bits .i64) (IntKind.wrap .i64 ((IntKind.wrap .i64 (Int.ofNat (BitVec.toNat (BitVec.ofInt (IntKind.bits .i64) (IntKind.wrap .i64 (Int.ofNat (BitVec.toNat (BitVec.ofInt (IntKind.bits .i64) x0 ||| BitVec.ofInt (IntKind.bits .i64) (IntKind.wrap .i64 (x0 * 2 ^ 8)))))) &&& BitVec.ofInt (IntKind.bits .i64) 16711935)))) * 2 ^ 4)))))) &&& BitVec.ofInt (IntKind.bits .i64) 252645135)))) ||| BitVec.ofInt (IntKind.bits .i64) (IntKind.wrap .i64 ((IntKind.wrap .i64 (Int.ofNat (BitVec.toNat (BitVec.ofInt (IntKind.bits .i64) (IntKind.wrap .i64 (Int.ofNat (BitVec.toNat (BitVec.ofInt (IntKind.bits .i64) (IntKind.wrap .i64 (Int.ofNat (BitVec.toNat (BitVec.ofInt (IntKind.bits .i64) (IntKind.wrap .i64 (Int.ofNat (BitVec.toNat (BitVec.ofInt (IntKind.bits .i64) x0 ||| BitVec.ofInt (IntKind.bits .i64) (IntKind.wrap .i64 (x0 * 2 ^ 8)))))) &&& BitVec.ofInt (IntKind.bits .i64) 16711935)))) ||| BitVec.ofInt (IntKind.bits .i64) (IntKind.wrap .i64 ((IntKind.wrap .i64 (Int.ofNat (BitVec.toNat (BitVec.ofInt (IntKind.bits .i64) (IntKind.wrap .i64 (Int.ofNat (BitVec.toNat (BitVec.ofInt (IntKind.bits .i64) x0 ||| BitVec.ofInt (IntKind.bits .i64) (IntKind.wrap .i64 (x0 * 2 ^ 8)))))) &&& BitVec.ofInt (IntKind.bits .i64) 16711935)))) * 2 ^ 4)))))) &&& BitVec.ofInt (IntKind.bits .i64) 252645135)))) * 2 ^ 2)))))) &&& BitVec.ofInt (IntKind.bits .i64) 858993459)))) ||| BitVec.ofInt (IntKind.bits .i64) (IntKind.wrap .i64 ((IntKind.wrap .i64 (Int.ofNat (BitVec.toNat (BitVec.ofInt (IntKind.bits .i64) (IntKind.wrap .i64 (Int.ofNat (BitVec.toNat (BitVec.ofInt (IntKind.bits .i64) (IntKind.wrap .i64 (Int.ofNat (BitVec.toNat (BitVec.ofInt (IntKind.bits .i64) (IntKind.wrap .i64 (Int.ofNat (BitVec.toNat (BitVec.ofInt (IntKind.bits .i64) (IntKind.wrap .i64 (Int.ofNat (BitVec.toNat (BitVec.ofInt (IntKind.bits .i64) (IntKind.wrap .i64 (Int.ofNat (BitVec.toNat (BitVec.ofInt (IntKind.bits .i64) x0 ||| BitVec.ofInt (IntKind.bits .i64) (IntKind.wrap .i64 (x0 * 2 ^ 8)))))) &&& BitVec.ofInt (IntKind.bits .i64) 16711935)))) ||| BitVec.ofInt (IntKind.bits .i64) (IntKind.wrap .i64 ((IntKind.wrap .i64 (Int.ofNat (BitVec.toNat (BitVec.ofInt (IntKind.bits .i64) (IntKind.wrap .i64 (Int.ofNat (BitVec.toNat (BitVec.ofInt (IntKind.bits .i64) x0 ||| BitVec.ofInt (IntKind.bits .i64) (IntKind.wrap .i64 (x0 * 2 ^ 8)))))) &&& BitVec.ofInt (IntKind.bits .i64) 16711935)))) * 2 ^ 4)))))) &&& BitVec.ofInt (IntKind.bits .i64) 252645135)))) ||| BitVec.ofInt (IntKind.bits .i64) (IntKind.wrap .i64 ((IntKind.wrap .i64 (Int.ofNat (BitVec.toNat (BitVec.ofInt (IntKind.bits .i64) (IntKind.wrap .i64 (Int.ofNat (BitVec.toNat (BitVec.ofInt (IntKind.bits .i64) (IntKind.wrap .i64 (Int.ofNat (BitVec.toNat (BitVec.ofInt (IntKind.bits .i64) (IntKind.wrap .i64 (Int.ofNat (BitVec.toNat (BitVec.ofInt (IntKind.bits .i64) x0 ||| BitVec.ofInt (IntKind.bits .i64) (IntKind.wrap .i64 (x0 * 2 ^ 8)))))) &&& BitVec.ofInt (IntKind.bits .i64) 16711935)))) ||| BitVec.ofInt (IntKind.bits .i64) (IntKind.wrap .i64 ((IntKind.wrap .i64 (Int.ofNat (BitVec.toNat (BitVec.ofInt (IntKind.bits .i64) (IntKind.wrap .i64 (Int.ofNat (BitVec.toNat (BitVec.ofInt (IntKind.bits .i64) x0 ||| BitVec.ofInt (IntKind.bits .i64) (IntKind.wrap .i64 (x0 * 2 ^ 8)))))) &&& BitVec.ofInt (IntKind.bits .i64) 16711935)))) * 2 ^ 4)))))) &&& BitVec.ofInt (IntKind.bits .i64) 252645135)))) * 2 ^ 2)))))) &&& BitVec.ofInt (IntKind.bits .i64) 858993459)))) * 2 ^ 1)))))) &&& BitVec.ofInt (IntKind.bits .i64) 1431655765)))), ([] : AMem)) := by kernel_rfl
theorem E54 (L : Rec) (x0 : Int) : enterF L a54 [.int .i64 x0] [] =
  some (.int .i64 (IntKind.wrap .i64 (Int.ofNat (BitVec.toNat (BitVec.ofInt (IntKind.bits .i64) (IntKind.wrap .i64 (Int.ofNat (BitVec.toNat (BitVec.ofInt (IntKind.bits .i64) (IntKind.wrap .i64 (Int.ofNat (BitVec.toNat (BitVec.ofInt (IntKind.bits .i64) (IntKind.wrap .i64 (Int.ofNat (BitVec.toNat (BitVec.ofInt (IntKind.bits .i64) (IntKind.wrap .i64 (Int.ofNat (BitVec.toNat (BitVec.ofInt (IntKind.bits .i64) (IntKind.wrap .i64 (Int.ofNat (BitVec.toNat (BitVec.ofInt (IntKind.bits .i64) (IntKind.wrap .i64 (Int.ofNat (BitVec.toNat (BitVec.ofInt (IntKind.bits .i64) (IntKind.wrap .i64 (Int.ofNat (BitVec.toNat (BitVec.ofInt (IntKind.bits .i64) x0 ||| BitVec.ofInt (IntKind.bits .i64) (IntKind.wrap .i64 (x0 * 2 ^ 8)))))) &&& BitVec.ofInt (IntKind.bits .i64) 16711935)))) ||| BitVec.ofInt (IntKind.bits .i64) (IntKind.wrap .i64 ((IntKind.wrap .i64 (Int.ofNat (BitVec.toNat (BitVec.ofInt (IntKind.bits .i64) (IntKind.wrap .i64 (Int.ofNat (BitVec.toNat (BitVec.ofInt (IntKind.bits .i64) x0 ||| BitVec.ofInt (IntKind.bits .i64) (IntKind.wrap .i64 (x0 * 2 ^ 8)))))) &&& BitVec.ofInt (IntKind.bits .i64) 16711935)))) * 2 ^ 4)))))) &&& BitVec.ofInt (IntKind.bits .i64) 252645135)))) ||| BitVec.ofInt (IntKind.bits .i64) (IntKind.wrap .i64 ((IntKind.wrap .i64 (Int.ofNat (BitVec.toNat (BitVec.ofInt (IntKind.bits .i64) (IntKind.wrap .i64 (Int.ofNat (BitVec.toNat (BitVec.ofInt (IntKind.bits .i64) (IntKind.wrap .i64 (Int.ofNat (BitVec.toNat (BitVec.ofInt (IntKind.bits .i64) (IntKind.wrap .i64 (Int.ofNat (BitVec.toNat (BitVec.ofInt (IntKind.bits .i64) x0 ||| BitVec.ofInt (IntKind.bits .i64) (IntKind.wrap .i64 (x0 * 2 ^ 8)))))) &&& BitVec.ofInt (IntKind.bits .i64) 16711935)))) ||| BitVec.ofInt (IntKind.bits .i64) (IntKind.wrap .i64 ((IntKind.wrap .i64 (Int.ofNat (BitVec.toNat (BitVec.ofInt (IntKind.bits .i64) (IntKind.wrap .i64 (Int.ofNat (BitVec.toNat (BitVec.ofInt (IntKind.bits .i64) x0 ||| BitVec.ofInt (IntKind.bits .i64) (IntKind.wrap .i64 (x0 * 2 ^ 8)))))) &&& BitVec.ofInt (IntKind.bits .i64) 16711935)))) * 2 ^ 4)))))) &&& BitVec.ofInt (IntKind.bits .i64) 252645135)))) * 2 ^ 2)))))) &&& BitVec.ofInt (IntKind.bits .i64) 858993459)))) ||| BitVec.ofInt (IntKind.bits .i64) (IntKind.wrap .i64 ((IntKind.wrap .i64 (Int.ofNat (BitVec.toNat (BitVec.ofInt (IntKind.bits .i64) (IntKind.wrap .i64 (Int.ofNat (BitVec.toNat (BitVec.ofInt (IntKind.bits .i64) (IntKind.wrap .i64 (Int.ofNat (BitVec.toNat (BitVec.ofInt (IntKind.bits .i64) (IntKind.wrap .i64 (Int.ofNat (BitVec.toNat (BitVec.ofInt (IntKind.bits .i64) (IntKind.wrap .i64 (Int.ofNat (BitVec.toNat (BitVec.ofInt (IntKind.bits .i64) (IntKind.wrap .i64 (Int.ofNat (BitVec.toNat (BitVec.ofInt (IntKind.bits .i64) x0 ||| BitVec.ofInt (IntKind.bits .i64) (IntKind.wrap .i64 (x0 * 2 ^ 8)))))) &&& BitVec.ofInt (IntKind.bits .i64) 16711935)))) ||| BitVec.ofInt (IntKind.bits .i64) (IntKind.wrap .i64 ((IntKind.wrap .i64 (Int.ofNat (BitVec.toNat (BitVec.ofInt (IntKind.bits .i64) (IntKind.wrap .i64 (Int.ofNat (BitVec.toNat (BitVec.ofInt (IntKind.bits .i64) x0 ||| BitVec.ofInt (IntKind.bits .i64) (IntKind.wrap .i64 (x0 * 2 ^ 8)))))) &&& BitVec.ofInt (IntKind.bits .i64) 16711935)))) * 2 ^ 4)))))) &&& BitVec.ofInt (IntKind.bits .i64) 252645135)))) ||| BitVec.ofInt (IntKind.bits .i64) (IntKind.wrap .i64 ((IntKind.wrap .i64 (Int.ofNat (BitVec.toNat (BitVec.ofInt (IntKind.bits .i64) (IntKind.wrap .i64 (Int.ofNat (BitVec.toNat (BitVec.ofInt (IntKind.bits .i64) (IntKind.wrap .i64 (Int.ofNat (BitVec.toNat (BitVec.ofInt (IntKind.bits .i64) (IntKind.wrap .i64 (Int.ofNat (BitVec.toNat (BitVec.ofInt (IntKind.bits .i64) x0 ||| BitVec.ofInt (IntKind.bits .i64) (IntKind.wrap .i64 (x0 * 2 ^ 8)))))) &&& BitVec.ofInt (IntKind.bits .i64) 16711935)))) ||| BitVec.ofInt (IntKind.bits .i64) (IntKind.wrap .i64 ((IntKind.wrap .i64 (Int.ofNat (BitVec.toNat (BitVec.ofInt (IntKind.bits .i64) (IntKind.wrap .i64 (Int.ofNat (BitVec.toNat (BitVec.ofInt (IntKind.bits .i64) x0 ||| BitVec.ofInt (IntKind.bits .i64) (IntKind.wrap .i64 (x0 * 2 ^ 8)))))) &&& BitVec.ofInt (IntKind.bits .i64) 16711935)))) * 2 ^ 4)))))) &&& BitVec.ofInt (IntKind.bits .i64) 252645135)))) * 2 ^ 2)))))) &&& BitVec.ofInt (IntKind.bits .i64) 858993459)))) * 2 ^ 1)))))) &&& BitVec.ofInt (IntKind.bits .i64) 1431655765)))), ([] : AMem)) := Eq.mp (by kernel_rfl) (GE54 L  x0)
/-! #### morton.gathered -/
theorem GE55 (L : Rec) (x0 : Int) : enterF L ⟨25, [.tmp 2], .seq (.ops o55_1) (.seq (.ops o55_3) (.seq (.ops o55_5) (.seq (.ops o55_7) (.seq (.ops o55_9) (.seq (.ops o55_11) (.ret))))))⟩ [.int .i64 x0] [] =
  some (.int .i64 (IntKind.wrap .i64 (Int.ofNat (BitVec.toNat (BitVec.ofInt (IntKind.bits .i64) (IntKind.wrap .i64 (Int.ofNat (BitVec.toNat (BitVec.ofInt (IntKind.bits .i64) (IntKind.wrap .i64 (Int.ofNat (BitVec.toNat (BitVec.ofInt (IntKind.bits .i64) (IntKind.wrap .i64 (Int.ofNat (BitVec.toNat (BitVec.ofInt (IntKind.bits .i64) (IntKind.wrap .i64 (Int.ofNat (BitVec.toNat (BitVec.ofInt (IntKind.bits .i64) (IntKind.wrap .i64 (Int.ofNat (BitVec.toNat (BitVec.ofInt (IntKind.bits .i64) (IntKind.wrap .i64 (Int.ofNat (BitVec.toNat (BitVec.ofInt (IntKind.bits .i64) (IntKind.wrap .i64 (Int.ofNat (BitVec.toNat (BitVec.ofInt (IntKind.bits .i64) (IntKind.wrap .i64 (Int.ofNat (BitVec.toNat (BitVec.ofInt (IntKind.bits .i64) x0 &&& BitVec.ofInt (IntKind.bits .i64) 1431655765)))) ||| BitVec.ofInt (IntKind.bits .i64) (Int.fdiv (IntKind.wrap .i64 (Int.ofNat (BitVec.toNat (BitVec.ofInt (IntKind.bits .i64) x0 &&& BitVec.ofInt (IntKind.bits .i64) 1431655765)))) (2 ^ 1)))))) &&& BitVec.ofInt (IntKind.bits .i64) 858993459)))) ||| BitVec.ofInt (IntKind.bits .i64) (Int.fdiv (IntKind.wrap .i64 (Int.ofNat (BitVec.toNat (BitVec.ofInt (IntKind.bits .i64) (IntKind.wrap .i64 (Int.ofNat (BitVec.toNat (BitVec.ofInt (IntKind.bits .i64) (IntKind.wrap .i64 (Int.ofNat (BitVec.toNat (BitVec.ofInt (IntKind.bits .i64) x0 &&& BitVec.ofInt (IntKind.bits .i64) 1431655765)))) ||| BitVec.ofInt (IntKind.bits .i64) (Int.fdiv (IntKind.wrap .i64 (Int.ofNat (BitVec.toNat (BitVec.ofInt (IntKind.bits .i64) x0 &&& BitVec.ofInt (IntKind.bits .i64) 1431655765)))) (2 ^ 1)))))) &&& BitVec.ofInt (IntKind.bits .i64) 858993459)))) (2 ^ 2)))))) &&& BitVec.ofInt (IntKind.bits .i64) 252645135)))) ||| BitVec.ofInt (IntKind.bits .i64) (Int.fdiv (IntKind.wrap .i64 (Int.ofNat (BitVec.toNat (BitVec.ofInt (IntKind.bits .i64) (IntKind.wrap .i64 (Int.ofNat (BitVec.toNat (BitVec.ofInt (IntKind.bits .i64) (IntKind.wrap .i64 (Int.ofNat (BitVec.toNat (BitVec.ofInt (IntKind.bits .i64) (IntKind.wrap .i64 (Int.ofNat (BitVec.toNat (BitVec.ofInt (IntKind.bits .i64) (IntKind.wrap .i64 (Int.ofNat (BitVec.toNat (BitVec.ofInt (IntKind.bits .i64) x0 &&& BitVec.ofInt (IntKind.bits .i64) 1431655765)))) ||| BitVec.ofInt (IntKind.bits .i64) (Int.fdiv (IntKind.wrap .i64 (Int.ofNat (BitVec.toNat (BitVec.ofInt (IntKind.bits .i64) x0 &&& BitVec.ofInt (IntKind.bits .i64) 1431655765)))) (2 ^ 1)))))) &&& BitVec.ofInt (IntKind.bits .i64) 858993459)))) ||| BitVec.ofInt (IntKind.bits .i64) (Int.fdiv (IntKind.wrap .i64 (Int.ofNat (BitVec.toNat (BitVec.ofInt (IntKind.bits .i64) (IntKind.wrap .i64 (Int.ofNat (BitVec.toNat (BitVec.ofInt (IntKind.bits .i64) (IntKind.wrap .i64 (Int.ofNat (BitVec.toNat (BitVec.ofInt (IntKind.bits .i64) x0 &&& BitVec.ofInt (IntKind.bits .i64) 1431655765)))) ||| BitVec.ofInt (IntKind.bits .i64) (Int.fdiv (IntKind.wrap .i64 (Int.ofNat (BitVec.toNat (BitVec.ofInt (IntKind.bits .i64) x0 &&& BitVec.ofInt (IntKind.bits .i64) 1431655765)))) (2 ^ 1)))))) &&& BitVec.ofInt (IntKind.bits .i64) 858993459)))) (2 ^ 2)))))) &&& BitVec.ofInt (IntKind.bits .i64) 252645135)))) (2 ^ 4)))))) &&& BitVec.ofInt (IntKind.bits .i64) 16711935)))) ||| BitVec.ofInt (IntKind.bits .i64) (Int.fdiv (IntKind.wrap .i64 (Int.ofNat (BitVec.toNat (BitVec.ofInt (IntKind.bits .i64) (IntKind.wrap .i64 (Int.ofNat (BitVec.toNat (BitVec.ofInt (IntKind.bits .i64) (IntKind.wrap .i64 (Int.ofNat (BitVec.toNat (BitVec.ofInt (IntKind.bits .i64) (IntKind.wrap .i64 (Int.ofNat (BitVec.toNat (BitVec.ofInt (IntKind.bits .i64) (IntKind.wrap .i64 (Int.ofNat (BitVec.toNat (BitVec.ofInt (IntKind.bits .i64) (IntKind.wrap .i64 (Int.ofNat (BitVec.toNat (BitVec.ofInt (IntKind.bits .i64) (IntKind.wrap .i64 (Int.ofNat (BitVec.toNat (BitVec.ofInt (IntKind.bits .i64) x0 &&& BitVec.ofInt (IntKind.bits .i64) 1431655765)))) ||| BitVec.ofInt (IntKind.bits .i64) (Int.fdiv (IntKind.wrap .i64 (Int.ofNat (BitVec.toNat (BitVec.ofInt (IntKind.bits .i64) x0 &&& BitVec.ofInt (IntKind.bits .i64) 1431655765)))) (2 ^ 1)))))) &&& BitVec.ofInt (IntKind.bits .i64) 858993459)))) ||| BitVec.ofInt (IntKind.bits .i64) (Int.fdiv (IntKind.wrap .i64 (Int.ofNat (BitVec.toNat (BitVec.ofInt (IntKind.bits .i64) (IntKind.wrap .i64 (Int.ofNat (BitVec.toNat (BitVec.ofInt (IntKind.bits .i64) (IntKind.wrap .i64 (Int.ofNat (BitVec.toNat (BitVec.ofInt (IntKind.bits .i64) x0 &&& BitVec.ofInt (IntKind.bits .i64) 1431655765)))) ||| BitVec.ofInt (IntKind.bits .i64) (Int.fdiv (IntKind.wrap .i64 (Int.ofNat (BitVec.toNat (BitVec.ofInt (IntKind.bits .i64) x0 &&& BitVec.ofInt (IntKind.bits .i64) 1431655765)))) (2 ^ 1)))))) &&& BitVec.ofInt (IntKind.bits .i64) 858993459)))) (2 ^ 2)))))) &&& BitVec.ofInt (IntKind.bits .i64) 252645135)))) ||| BitVec.ofInt (IntKind.bits .i64) (Int.fdiv (IntKind.wrap .i64 (Int.ofNat (BitVec.toNat (BitVec.ofInt (IntKind.bits .i64) (IntKind.wrap .i64 (Int.ofNat (BitVec.toNat (BitVec.ofInt (IntKind.bits .i64) (IntKind.wrap .i64 (Int.ofNat (BitVec.toNat (BitVec.ofInt (IntKind.bits .i64) (IntKind.wrap .i64 (Int.ofNat (BitVec.toNat (BitVec.ofInt (IntKind.bits .i64) (IntKind.wrap .i64 (Int.ofNat (BitVec.toNat (BitVec.ofInt (IntKind.bits .i64) x0 &&& BitVec.ofInt (IntKind.bits .i64) 1431655765)))) ||| BitVec.ofInt (IntKind.bits .i64) (Int.fdiv (IntKind.wrap .i64 (Int.ofNat (BitVec.toNat (BitVec.ofInt (IntKind.bits .i64) x0 &&& BitVec.ofInt (IntKind.bits .i64) 1431655765)))) (2 ^ 1)))))) &&& BitVec.ofInt (IntKind.bits .i64) 858993459)))) ||| BitVec.ofInt (IntKind.bits .i64) (Int.fdiv (IntKind.wrap .i64 (Int.ofNat (BitVec.toNat (BitVec.ofInt (IntKind.bits .i64) (IntKind.wrap .i64 (Int.ofNat (BitVec.toNat (BitVec.ofInt (IntKind.bits .i64) (IntKind.wrap .i64 (Int.ofNat (BitVec.toNat (BitVec.ofInt (IntKind.bits .i64) x0 &&& BitVec.ofInt (IntKind.bits .i64) 1431655765)))) ||| BitVec.ofInt (IntKind.bits .i64) (Int.fdiv (IntKind.wrap .i64 (Int.ofNat (BitVec.toNat (BitVec.ofInt (IntKind.bits .i64) x0 &&& BitVec.ofInt (IntKind.bits .i64) 1431655765)))) (2 ^ 1)))))) &&& BitVec.ofInt (IntKind.bits .i64) 858993459)))) (2 ^ 2)))))) &&& BitVec.ofInt (IntKind.bits .i64) 252645135)))) (2 ^ 4)))))) &&& BitVec.ofInt (IntKind.bits .i64) 16711935)))) (2 ^ 8)))))) &&& BitVec.ofInt (IntKind.bits .i64) 65535)))), ([] : AMem)) := by kernel_rfl
theorem E55 (L : Rec) (x0 : Int) : enterF L a55 [.int .i64 x0] [] =
  some (.int .i64 (IntKind.wrap .i64 (Int.ofNat (BitVec.toNat (BitVec.ofInt (IntKind.bits .i64) (IntKind.wrap .i64 (Int.ofNat (BitVec.toNat (BitVec.ofInt (IntKind.bits .i64) (IntKind.wrap .i64 (Int.ofNat (BitVec.toNat (BitVec.ofInt (IntKind.bits .i64) (IntKind.wrap .i64 (Int.ofNat (BitVec.toNat (BitVec.ofInt (IntKind.bits .i64) (IntKind.wrap .i64 (Int.ofNat (BitVec.toNat (BitVec.ofInt (IntKind.bits .i64) (IntKind.wrap .i64 (Int.ofNat (BitVec.toNat (BitVec.ofInt (IntKind.bits .i64) (IntKind.wrap .i64 (Int.ofNat (BitVec.toNat (BitVec.ofInt (IntKind.bits .i64) (IntKind.wrap .i64 (Int.ofNat (BitVec.toNat (BitVec.ofInt (IntKind.bits .i64) (IntKind.wrap .i64 (Int.ofNat (BitVec.toNat (BitVec.ofInt (IntKind.bits .i64) x0 &&& BitVec.ofInt (IntKind.bits .i64) 1431655765)))) ||| BitVec.ofInt (IntKind.bits .i64) (Int.fdiv (IntKind.wrap .i64 (Int.ofNat (BitVec.toNat (BitVec.ofInt (IntKind.bits .i64) x0 &&& BitVec.ofInt (IntKind.bits .i64) 1431655765)))) (2 ^ 1)))))) &&& BitVec.ofInt (IntKind.bits .i64) 858993459)))) ||| BitVec.ofInt (IntKind.bits .i64) (Int.fdiv (IntKind.wrap .i64 (Int.ofNat (BitVec.toNat (BitVec.ofInt (IntKind.bits .i64) (IntKind.wrap .i64 (Int.ofNat (BitVec.toNat (BitVec.ofInt (IntKind.bits .i64) (IntKind.wrap .i64 (Int.ofNat (BitVec.toNat (BitVec.ofInt (IntKind.bits .i64) x0 &&& BitVec.ofInt (IntKind.bits .i64) 1431655765)))) ||| BitVec.ofInt (IntKind.bits .i64) (Int.fdiv (IntKind.wrap .i64 (Int.ofNat (BitVec.toNat (BitVec.ofInt (IntKind.bits .i64) x0 &&& BitVec.ofInt (IntKind.bits .i64) 1431655765)))) (2 ^ 1)))))) &&& BitVec.ofInt (IntKind.bits .i64) 858993459)))) (2 ^ 2)))))) &&& BitVec.ofInt (IntKind.bits .i64) 252645135)))) ||| BitVec.ofInt (IntKind.bits .i64) (Int.fdiv (IntKind.wrap .i64 (Int.ofNat (BitVec.toNat (BitVec.ofInt (IntKind.bits .i64) (IntKind.wrap .i64 (Int.ofNat (BitVec.toNat (BitVec.ofInt (IntKind.bits .i64) (IntKind.wrap .i64 (Int.ofNat (BitVec.toNat (BitVec.ofInt (IntKind.bits .i64) (IntKind.wrap .i64 (Int.ofNat (BitVec.toNat (BitVec.ofInt (IntKind.bits .i64) (IntKind.wrap .i64 (Int.ofNat (BitVec.toNat (BitVec.ofInt (IntKind.bits .i64) x0 &&& BitVec.ofInt (IntKind.bits .i64) 1431655765)))) ||| BitVec.ofInt (IntKind.bits .i64) (Int.fdiv (IntKind.wrap .i64 (Int.ofNat (BitVec.toNat (BitVec.ofInt (IntKind.bits .i64) x0 &&& BitVec.ofInt (IntKind.bits .i64) 1431655765)))) (2 ^ 1)))))) &&& BitVec.ofInt (IntKind.bits .i64) 858993459)))) ||| BitVec.ofInt (IntKind.bits .i64) (Int.fdiv (IntKind.wrap .i64 (Int.ofNat (BitVec.toNat (BitVec.ofInt (IntKind.bits .i64) (IntKind.wrap .i64 (Int.ofNat (BitVec.toNat (BitVec.ofInt (IntKind.bits .i64) (IntKind.wrap .i64 (Int.ofNat (BitVec.toNat (BitVec.ofInt (IntKind.bits .i64) x0 &&& BitVec.ofInt (IntKind.bits .i64) 1431655765)))) ||| BitVec.ofInt (IntKind.bits .i64) (Int.fdiv (IntKind.wrap .i64 (Int.ofNat (BitVec.toNat (BitVec.ofInt (IntKind.bits .i64) x0 &&& BitVec.ofInt (IntKind.bits .i64) 1431655765)))) (2 ^ 1)))))) &&& BitVec.ofInt (IntKind.bits .i64) 858993459)))) (2 ^ 2)))))) &&& BitVec.ofInt (IntKind.bits .i64) 252645135)))) (2 ^ 4)))))) &&& BitVec.ofInt (IntKind.bits .i64) 16711935)))) ||| BitVec.ofInt (IntKind.bits .i64) (Int.fdiv (IntKind.wrap .i64 (Int.ofNat (BitVec.toNat (BitVec.ofInt (IntKind.bits .i64) (IntKind.wrap .i64 (Int.ofNat (BitVec.toNat (BitVec.ofInt (IntKind.bits .i64) (IntKind.wrap .i64 (Int.ofNat (BitVec.toNat (BitVec.ofInt (IntKind.bits .i64) (IntKind.wrap .i64 (Int.ofNat (BitVec.toNat (BitVec.ofInt (IntKind.bits .i64) (IntKind.wrap .i64 (Int.ofNat (BitVec.toNat (BitVec.ofInt (IntKind.bits .i64) (IntKind.wrap .i64 (Int.ofNat (BitVec.toNat (BitVec.ofInt (IntKind.bits .i64) (IntKind.wrap .i64 (Int.ofNat (BitVec.toNat (BitVec.ofInt (IntKind.bits .i64) x0 &&& BitVec.ofInt (IntKind.bits .i64) 1431655765)))) ||| BitVec.ofInt (IntKind.bits .i64) (Int.fdiv (IntKind.wrap .i64 (Int.ofNat (BitVec.toNat (BitVec.ofInt (IntKind.bits .i64) x0 &&& BitVec.ofInt (IntKind.bits .i64) 1431655765)))) (2 ^ 1)))))) &&& BitVec.ofInt (IntKind.bits .i64) 858993459)))) ||| BitVec.ofInt (IntKind.bits .i64) (Int.fdiv (IntKind.wrap .i64 (Int.ofNat (BitVec.toNat (BitVec.ofInt (IntKind.bits .i64) (IntKind.wrap .i64 (Int.ofNat (BitVec.toNat (BitVec.ofInt (IntKind.bits .i64) (IntKind.wrap .i64 (Int.ofNat (BitVec.toNat (BitVec.ofInt (IntKind.bits .i64) x0 &&& BitVec.ofInt (IntKind.bits .i64) 1431655765)))) ||| BitVec.ofInt (IntKind.bits .i64) (Int.fdiv (IntKind.wrap .i64 (Int.ofNat (BitVec.toNat (BitVec.ofInt (IntKind.bits .i64) x0 &&& BitVec.ofInt (IntKind.bits .i64) 1431655765)))) (2 ^ 1)))))) &&& BitVec.ofInt (IntKind.bits .i64) 858993459)))) (2 ^ 2)))))) &&& BitVec.ofInt (IntKind.bits .i64) 252645135)))) ||| BitVec.ofInt (IntKind.bits .i64) (Int.fdiv (IntKind.wrap .i64 (Int.ofNat (BitVec.toNat (BitVec.ofInt (IntKind.bits .i64) (IntKind.wrap .i64 (Int.ofNat (BitVec.toNat (BitVec.ofInt (IntKind.bits .i64) (IntKind.wrap .i64 (Int.ofNat (BitVec.toNat (BitVec.ofInt (IntKind.bits .i64) (IntKind.wrap .i64 (Int.ofNat (BitVec.toNat (BitVec.ofInt (IntKind.bits .i64) (IntKind.wrap .i64 (Int.ofNat (BitVec.toNat (BitVec.ofInt (IntKind.bits .i64) x0 &&& BitVec.ofInt (IntKind.bits .i64) 1431655765)))) ||| BitVec.ofInt (IntKind.bits .i64) (Int.fdiv (IntKind.wrap .i64 (Int.ofNat (BitVec.toNat (BitVec.ofInt (IntKind.bits .i64) x0 &&& BitVec.ofInt (IntKind.bits .i64) 1431655765)))) (2 ^ 1)))))) &&& BitVec.ofInt (IntKind.bits .i64) 858993459)))) ||| BitVec.ofInt (IntKind.bits .i64) (Int.fdiv (IntKind.wrap .i64 (Int.ofNat (BitVec.toNat (BitVec.ofInt (IntKind.bits .i64) (IntKind.wrap .i64 (Int.ofNat (BitVec.toNat (BitVec.ofInt (IntKind.bits .i64) (IntKind.wrap .i64 (Int.ofNat (BitVec.toNat (BitVec.ofInt (IntKind.bits .i64) x0 &&& BitVec.ofInt (IntKind.bits .i64) 1431655765)))) ||| BitVec.ofInt (IntKind.bits .i64) (Int.fdiv (IntKind.wrap .i64 (Int.ofNat (BitVec.toNat (BitVec.ofInt (IntKind.bits .i64) x0 &&& BitVec.ofInt (IntKind.bits .i64) 1431655765)))) (2 ^ 1)))))) &&& BitVec.ofInt (IntKind.bits .i64) 858993459)))) (2 ^ 2)))))) &&& BitVec.ofInt (IntKind.bits .i64) 252645135)))) (2 ^ 4)))))) &&& BitVec.ofInt (IntKind.bits .i64) 16711935)))) (2 ^ 8)))))) &&& BitVec.ofInt (IntKind.bits .i64) 65535)))), ([] : AMem)) := Eq.mp (by kernel_rfl) (GE55 L  x0)
/-! #### morton.given -/
theorem GE56 (L : Rec) (x0 : Int) (x1 : Int) : enterF L ⟨15, [.tmp 4], .seq (.ops o56_1) (.seq (.ops o56_3) (.ret))⟩ [.int .i64 x0, .int .i64 x1] [] =
  (if (decide ((if x1 < x0 then x1 else x0) ≥ 1)) = true
    then some (.bool (decide ((if x1 > x0 then x1 else x0) ≤ 256)), ([] : AMem))
    else some (.bool false, ([] : AMem))) := by kernel_rfl
theorem E56 (L : Rec) (x0 : Int) (x1 : Int) : enterF L a56 [.int .i64 x0, .int .i64 x1] [] =
  (if (decide ((if x1 < x0 then x1 else x0) ≥ 1)) = true
    then some (.bool (decide ((if x1 > x0 then x1 else x0) ≤ 256)), ([] : AMem))
    else some (.bool false, ([] : AMem))) := Eq.mp (by kernel_rfl) (GE56 L  x0 x1)
/-! #### morton.places -/
theorem GE57 (L : Rec) (x0 : Int) (x1 : Int) (M : AMem) : enterF L ⟨6, [.tmp 4], .seq (.ops o57_1) (.seq (.ops o57_3) (.ret))⟩ [.int .i64 x0, .int .i64 x1] M =
  some (.func (.func 58) #[] #[.pointer (some ⟨(List.length M), 0, none⟩), .pointer (some ⟨(List.length (M ++ [AObj.cells [.int .i64 x0] ⟨false, 0⟩])), 0, none⟩)], ((M ++ [AObj.cells [.int .i64 x0] ⟨false, 0⟩]) ++ [AObj.cells [.int .i64 x1] ⟨false, 0⟩])) := by kernel_rfl
theorem E57 (L : Rec) (x0 : Int) (x1 : Int) (M : AMem) : enterF L a57 [.int .i64 x0, .int .i64 x1] M =
  some (.func (.func 58) #[] #[.pointer (some ⟨(List.length M), 0, none⟩), .pointer (some ⟨(List.length (M ++ [AObj.cells [.int .i64 x0] ⟨false, 0⟩])), 0, none⟩)], ((M ++ [AObj.cells [.int .i64 x0] ⟨false, 0⟩]) ++ [AObj.cells [.int .i64 x1] ⟨false, 0⟩])) := Eq.mp (by kernel_rfl) (GE57 L  x0 x1 M)
/-! #### morton.places$1 -/
noncomputable def k58_5 (L : Rec) : KT := blockK 0 (retK [])
def s58_5 (x0 : Nat) (x1 : Nat) (x2 : Nat) (x4 : Int) (x13 : Int) (M : AMem) : List Value := [.func (.yield x0) #[] #[], .pointer (some ⟨x1, 0, none⟩), .pointer (some ⟨x2, 0, none⟩), junk, .int .i64 x4, junk, junk, junk, junk, junk, junk, junk, junk, .int .i64 x13, junk, junk, junk, junk, junk, junk, junk, junk, junk, junk, junk, junk, junk, junk, junk, junk, junk, junk, junk, junk, junk, junk, junk, junk, junk, junk]
theorem XP58_5 : ∃ P : Rec → Nat → Nat → Nat → Int → Int → AMem → Res, P = fun (L : Rec) (x0 : Nat) (x1 : Nat) (x2 : Nat) (x4 : Int) (x13 : Int) (M : AMem) => L.loop b58_5 (k58_5 L) (s58_5 x0 x1 x2 x4 x13 M) M := ⟨_, rfl⟩
noncomputable def P58_5 : Rec → Nat → Nat → Nat → Int → Int → AMem → Res := Classical.choose XP58_5
noncomputable def k58_29 (L : Rec) : KT := postK [3, 5, 6, 7, 8, 9, 10, 11, 12, 14, 15, 16, 17, 18, 19, 20, 21, 22, 23, 24, 25, 26, 27, 28, 29, 30, 31, 32, 33, 34, 35, 36, 37, 38, 39] (loopK L b58_5 (blockK 0 (retK [])))
def s58_29 (x0 : Nat) (x1 : Nat) (x2 : Nat) (x4 : Int) (x13 : Int) (M : AMem) : List Value := [.func (.yield x0) #[] #[], .pointer (some ⟨x1, 0, none⟩), .pointer (some ⟨x2, 0, none⟩), junk, .int .i64 x4, junk, junk, junk, junk, junk, junk, junk, junk, .int .i64 x13, junk, junk, junk, junk, junk, junk, junk, junk, junk, junk, junk, junk, junk, junk, junk, junk, junk, junk, junk, junk, junk, junk, junk, junk, junk, junk]
theorem XP58_29 : ∃ P : Rec → Nat → Nat → Nat → Int → Int → AMem → Res, P = fun (L : Rec) (x0 : Nat) (x1 : Nat) (x2 : Nat) (x4 : Int) (x13 : Int) (M : AMem) => code L c58_29 (k58_29 L) (s58_29 x0 x1 x2 x4 x13 M) M := ⟨_, rfl⟩
noncomputable def P58_29 : Rec → Nat → Nat → Nat → Int → Int → AMem → Res := Classical.choose XP58_29
theorem G58_5 (L : Rec) (b58_5 c58_29 : ACode) (x0 : Nat) (x1 : Nat) (x2 : Nat) (x4 : Int) (x13 : Int) (M : AMem) : code L (.post (.seq (.ops o58_7) (.seq (.cond (.tmp 14) (.skip) (.exit 0)) (.seq (.block 1 (.seq (.ops o58_15) (.seq (.seq (.ops o58_18) (.cond (.tmp 18) (.ret) (.skip))) (.seq (.ops o58_23) (.seq (.ops o58_25) (.cond (.tmp 38) (.ret) (.skip))))))) (.clear [3, 5, 6, 7, 8, 9, 10, 11, 12, 14, 15, 16, 17, 18, 19, 20, 21, 22, 23, 24, 25, 26, 27, 28, 29, 30, 31, 32, 33, 34, 35, 36, 37, 38, 39] c58_29)))) [3, 5, 6, 7, 8, 9, 10, 11, 12, 14, 15, 16, 17, 18, 19, 20, 21, 22, 23, 24, 25, 26, 27, 28, 29, 30, 31, 32, 33, 34, 35, 36, 37, 38, 39]) (loopK L b58_5 (blockK 0 (retK []))) [.func (.yield x0) #[] #[], .pointer (some ⟨x1, 0, none⟩), .pointer (some ⟨x2, 0, none⟩), junk, .int .i64 x4, junk, junk, junk, junk, junk, junk, junk, junk, .int .i64 x13, junk, junk, junk, junk, junk, junk, junk, junk, junk, junk, junk, junk, junk, junk, junk, junk, junk, junk, junk, junk, junk, junk, junk, junk, junk, junk] M =
  (if (decide (x13 < 65536)) = true
    then (if (decide (x13 > x4)) = true
      then some (.tuple #[], M)
      else (Option.bind (L.call 40 [.int .i64 x13] []) fun r_1 =>
        (Option.bind (tupOf? 2 r_1.1) fun cs_2 =>
        (Option.bind (cs_2[0]?) fun u_3 =>
        (Option.bind (intOf? .i64 (some u_3)) fun x_4 =>
        (Option.bind (cs_2[1]?) fun u_5 =>
        (Option.bind (intOf? .i64 (some u_5)) fun x_6 =>
        (Option.bind (intOf? .i64 (AMem.ld M x1 0)) fun x_7 =>
        (if (decide (x_4 < x_7)) = true
        then (Option.bind (intOf? .i64 (AMem.ld M x2 0)) fun x_8 =>
          (if (decide (x_6 < x_8)) = true
          then (Option.bind (L.round x0 [.int .i64 x_4, .int .i64 x_6] M) fun r_9 =>
            (Option.bind (boolOf? (some r_9.1)) fun q_10 =>
            (if (!q_10) = true
            then some (.tuple #[], r_9.2)
            else code L c58_29 (postK [3, 5, 6, 7, 8, 9, 10, 11, 12, 14, 15, 16, 17, 18, 19, 20, 21, 22, 23, 24, 25, 26, 27, 28, 29, 30, 31, 32, 33, 34, 35, 36, 37, 38, 39] (loopK L b58_5 (blockK 0 (retK [])))) [.func (.yield x0) #[] #[], .pointer (some ⟨x1, 0, none⟩), .pointer (some ⟨x2, 0, none⟩), junk, .int .i64 x4, junk, junk, junk, junk, junk, junk, junk, junk, .int .i64 x13, junk, junk, junk, junk, junk, junk, junk, junk, junk, junk, junk, junk, junk, junk, junk, junk, junk, junk, junk, junk, junk, junk, junk, junk, junk, junk] r_9.2)))
          else code L c58_29 (postK [3, 5, 6, 7, 8, 9, 10, 11, 12, 14, 15, 16, 17, 18, 19, 20, 21, 22, 23, 24, 25, 26, 27, 28, 29, 30, 31, 32, 33, 34, 35, 36, 37, 38, 39] (loopK L b58_5 (blockK 0 (retK [])))) [.func (.yield x0) #[] #[], .pointer (some ⟨x1, 0, none⟩), .pointer (some ⟨x2, 0, none⟩), junk, .int .i64 x4, junk, junk, junk, junk, junk, junk, junk, junk, .int .i64 x13, junk, junk, junk, junk, junk, junk, junk, junk, junk, junk, junk, junk, junk, junk, junk, junk, junk, junk, junk, junk, junk, junk, junk, junk, junk, junk] M))
        else code L c58_29 (postK [3, 5, 6, 7, 8, 9, 10, 11, 12, 14, 15, 16, 17, 18, 19, 20, 21, 22, 23, 24, 25, 26, 27, 28, 29, 30, 31, 32, 33, 34, 35, 36, 37, 38, 39] (loopK L b58_5 (blockK 0 (retK [])))) [.func (.yield x0) #[] #[], .pointer (some ⟨x1, 0, none⟩), .pointer (some ⟨x2, 0, none⟩), junk, .int .i64 x4, junk, junk, junk, junk, junk, junk, junk, junk, .int .i64 x13, junk, junk, junk, junk, junk, junk, junk, junk, junk, junk, junk, junk, junk, junk, junk, junk, junk, junk, junk, junk, junk, junk, junk, junk, junk, junk] M)))))))))
    else some (.tuple #[], M)) := by kernel_rfl
theorem QP58_5_eq (L : Rec) (hL : ∀ b K t A, L.loop b K t A = code L b (loopK L b K) t A) (P58_5 : Rec → Nat → Nat → Nat → Int → Int → AMem → Res) (hP58_5 : P58_5 = fun (L : Rec) (x0 : Nat) (x1 : Nat) (x2 : Nat) (x4 : Int) (x13 : Int) (M : AMem) => L.loop b58_5 (k58_5 L) (s58_5 x0 x1 x2 x4 x13 M) M) (P58_29 : Rec → Nat → Nat → Nat → Int → Int → AMem → Res) (hP58_29 : P58_29 = fun (L : Rec) (x0 : Nat) (x1 : Nat) (x2 : Nat) (x4 : Int) (x13 : Int) (M : AMem) => code L c58_29 (k58_29 L) (s58_29 x0 x1 x2 x4 x13 M) M) (x0 : Nat) (x1 : Nat) (x2 : Nat) (x4 : Int) (x13 : Int) (M : AMem) : P58_5 L x0 x1 x2 x4 x13 M =
  (if (decide (x13 < 65536)) = true
    then (if (decide (x13 > x4)) = true
      then some (.tuple #[], M)
      else (Option.bind (L.call 40 [.int .i64 x13] []) fun r_1 =>
        (Option.bind (tupOf? 2 r_1.1) fun cs_2 =>
        (Option.bind (cs_2[0]?) fun u_3 =>
        (Option.bind (intOf? .i64 (some u_3)) fun x_4 =>
        (Option.bind (cs_2[1]?) fun u_5 =>
        (Option.bind (intOf? .i64 (some u_5)) fun x_6 =>
        (Option.bind (intOf? .i64 (AMem.ld M x1 0)) fun x_7 =>
        (if (decide (x_4 < x_7)) = true
        then (Option.bind (intOf? .i64 (AMem.ld M x2 0)) fun x_8 =>
          (if (decide (x_6 < x_8)) = true
          then (Option.bind (L.round x0 [.int .i64 x_4, .int .i64 x_6] M) fun r_9 =>
            (Option.bind (boolOf? (some r_9.1)) fun q_10 =>
            (if (!q_10) = true
            then some (.tuple #[], r_9.2)
            else P58_29 L x0 x1 x2 x4 x13 r_9.2)))
          else P58_29 L x0 x1 x2 x4 x13 M))
        else P58_29 L x0 x1 x2 x4 x13 M)))))))))
    else some (.tuple #[], M)) := by
  subst hP58_5; subst hP58_29; exact Eq.trans (b := code L b58_5 (loopK L b58_5 (k58_5 L)) (s58_5 x0 x1 x2 x4 x13 M) M) (hL b58_5 (k58_5 L) (s58_5 x0 x1 x2 x4 x13 M) M) (Eq.mp (by kernel_rfl) (G58_5 L b58_5 c58_29 x0 x1 x2 x4 x13 M))
theorem P58_5_eq (L : Rec) (hL : ∀ b K t A, L.loop b K t A = code L b (loopK L b K) t A) (x0 : Nat) (x1 : Nat) (x2 : Nat) (x4 : Int) (x13 : Int) (M : AMem) : P58_5 L x0 x1 x2 x4 x13 M =
  (if (decide (x13 < 65536)) = true
    then (if (decide (x13 > x4)) = true
      then some (.tuple #[], M)
      else (Option.bind (L.call 40 [.int .i64 x13] []) fun r_1 =>
        (Option.bind (tupOf? 2 r_1.1) fun cs_2 =>
        (Option.bind (cs_2[0]?) fun u_3 =>
        (Option.bind (intOf? .i64 (some u_3)) fun x_4 =>
        (Option.bind (cs_2[1]?) fun u_5 =>
        (Option.bind (intOf? .i64 (some u_5)) fun x_6 =>
        (Option.bind (intOf? .i64 (AMem.ld M x1 0)) fun x_7 =>
        (if (decide (x_4 < x_7)) = true
        then (Option.bind (intOf? .i64 (AMem.ld M x2 0)) fun x_8 =>
          (if (decide (x_6 < x_8)) = true
          then (Option.bind (L.round x0 [.int .i64 x_4, .int .i64 x_6] M) fun r_9 =>
            (Option.bind (boolOf? (some r_9.1)) fun q_10 =>
            (if (!q_10) = true
            then some (.tuple #[], r_9.2)
            else P58_29 L x0 x1 x2 x4 x13 r_9.2)))
          else P58_29 L x0 x1 x2 x4 x13 M))
        else P58_29 L x0 x1 x2 x4 x13 M)))))))))
    else some (.tuple #[], M)) := QP58_5_eq L hL P58_5 (Classical.choose_spec XP58_5) P58_29 (Classical.choose_spec XP58_29) x0 x1 x2 x4 x13 M
theorem G58_29 (L : Rec) (b58_5 : ACode) (x0 : Nat) (x1 : Nat) (x2 : Nat) (x4 : Int) (x13 : Int) (M : AMem) : code L (.ops o58_29) (postK [3, 5, 6, 7, 8, 9, 10, 11, 12, 14, 15, 16, 17, 18, 19, 20, 21, 22, 23, 24, 25, 26, 27, 28, 29, 30, 31, 32, 33, 34, 35, 36, 37, 38, 39] (loopK L b58_5 (blockK 0 (retK [])))) [.func (.yield x0) #[] #[], .pointer (some ⟨x1, 0, none⟩), .pointer (some ⟨x2, 0, none⟩), junk, .int .i64 x4, junk, junk, junk, junk, junk, junk, junk, junk, .int .i64 x13, junk, junk, junk, junk, junk, junk, junk, junk, junk, junk, junk, junk, junk, junk, junk, junk, junk, junk, junk, junk, junk, junk, junk, junk, junk, junk] M =
  L.loop b58_5 (blockK 0 (retK [])) [.func (.yield x0) #[] #[], .pointer (some ⟨x1, 0, none⟩), .pointer (some ⟨x2, 0, none⟩), junk, .int .i64 x4, junk, junk, junk, junk, junk, junk, junk, junk, .int .i64 (IntKind.wrap .i64 (x13 + 1)), junk, junk, junk, junk, junk, junk, junk, junk, junk, junk, junk, junk, junk, junk, junk, junk, junk, junk, junk, junk, junk, junk, junk, junk, junk, junk] M := by kernel_rfl
theorem QP58_29_eq (L : Rec) (P58_5 : Rec → Nat → Nat → Nat → Int → Int → AMem → Res) (hP58_5 : P58_5 = fun (L : Rec) (x0 : Nat) (x1 : Nat) (x2 : Nat) (x4 : Int) (x13 : Int) (M : AMem) => L.loop b58_5 (k58_5 L) (s58_5 x0 x1 x2 x4 x13 M) M) (P58_29 : Rec → Nat → Nat → Nat → Int → Int → AMem → Res) (hP58_29 : P58_29 = fun (L : Rec) (x0 : Nat) (x1 : Nat) (x2 : Nat) (x4 : Int) (x13 : Int) (M : AMem) => code L c58_29 (k58_29 L) (s58_29 x0 x1 x2 x4 x13 M) M) (x0 : Nat) (x1 : Nat) (x2 : Nat) (x4 : Int) (x13 : Int) (M : AMem) : P58_29 L x0 x1 x2 x4 x13 M =
  P58_5 L x0 x1 x2 x4 (IntKind.wrap .i64 (x13 + 1)) M := by
  subst hP58_5; subst hP58_29; exact Eq.mp (by kernel_rfl) (G58_29 L b58_5 x0 x1 x2 x4 x13 M)
theorem P58_29_eq (L : Rec) (x0 : Nat) (x1 : Nat) (x2 : Nat) (x4 : Int) (x13 : Int) (M : AMem) : P58_29 L x0 x1 x2 x4 x13 M =
  P58_5 L x0 x1 x2 x4 (IntKind.wrap .i64 (x13 + 1)) M := QP58_29_eq L P58_5 (Classical.choose_spec XP58_5) P58_29 (Classical.choose_spec XP58_29) x0 x1 x2 x4 x13 M
theorem GE58 (L : Rec) (b58_5 : ACode) (x0 : Nat) (x1 : Nat) (x2 : Nat) (M : AMem) : enterF L ⟨40, [], .seq (.ops o58_1) (.seq (.ops o58_3) (.block 0 (.clear [3, 5, 6, 7, 8, 9, 10, 11, 12, 14, 15, 16, 17, 18, 19, 20, 21, 22, 23, 24, 25, 26, 27, 28, 29, 30, 31, 32, 33, 34, 35, 36, 37, 38, 39] (.loop b58_5))))⟩ [.func (.yield x0) #[] #[], .pointer (some ⟨x1, 0, none⟩), .pointer (some ⟨x2, 0, none⟩)] M =
  (Option.bind (intOf? .i64 (AMem.ld M x1 0)) fun x_1 =>
    (Option.bind (intOf? .i64 (AMem.ld M x2 0)) fun x_2 =>
    (Option.bind (L.call 39 [.int .i64 (IntKind.wrap .i64 (x_1 - 1)), .int .i64 (IntKind.wrap .i64 (x_2 - 1))] []) fun r_3 =>
    (Option.bind (intOf? .i64 (some r_3.1)) fun x_4 =>
    L.loop b58_5 (blockK 0 (retK [])) [.func (.yield x0) #[] #[], .pointer (some ⟨x1, 0, none⟩), .pointer (some ⟨x2, 0, none⟩), junk, .int .i64 x_4, junk, junk, junk, junk, junk, junk, junk, junk, .int .i64 0, junk, junk, junk, junk, junk, junk, junk, junk, junk, junk, junk, junk, junk, junk, junk, junk, junk, junk, junk, junk, junk, junk, junk, junk, junk, junk] M)))) := by kernel_rfl
theorem QE58 (L : Rec) (P58_5 : Rec → Nat → Nat → Nat → Int → Int → AMem → Res) (hP58_5 : P58_5 = fun (L : Rec) (x0 : Nat) (x1 : Nat) (x2 : Nat) (x4 : Int) (x13 : Int) (M : AMem) => L.loop b58_5 (k58_5 L) (s58_5 x0 x1 x2 x4 x13 M) M) (x0 : Nat) (x1 : Nat) (x2 : Nat) (M : AMem) : enterF L a58 [.func (.yield x0) #[] #[], .pointer (some ⟨x1, 0, none⟩), .pointer (some ⟨x2, 0, none⟩)] M =
  (Option.bind (intOf? .i64 (AMem.ld M x1 0)) fun x_1 =>
    (Option.bind (intOf? .i64 (AMem.ld M x2 0)) fun x_2 =>
    (Option.bind (L.call 39 [.int .i64 (IntKind.wrap .i64 (x_1 - 1)), .int .i64 (IntKind.wrap .i64 (x_2 - 1))] []) fun r_3 =>
    (Option.bind (intOf? .i64 (some r_3.1)) fun x_4 =>
    P58_5 L x0 x1 x2 x_4 0 M)))) := by
  subst hP58_5; exact Eq.mp (by kernel_rfl) (GE58 L b58_5 x0 x1 x2 M)
theorem E58 (L : Rec) (x0 : Nat) (x1 : Nat) (x2 : Nat) (M : AMem) : enterF L a58 [.func (.yield x0) #[] #[], .pointer (some ⟨x1, 0, none⟩), .pointer (some ⟨x2, 0, none⟩)] M =
  (Option.bind (intOf? .i64 (AMem.ld M x1 0)) fun x_1 =>
    (Option.bind (intOf? .i64 (AMem.ld M x2 0)) fun x_2 =>
    (Option.bind (L.call 39 [.int .i64 (IntKind.wrap .i64 (x_1 - 1)), .int .i64 (IntKind.wrap .i64 (x_2 - 1))] []) fun r_3 =>
    (Option.bind (intOf? .i64 (some r_3.1)) fun x_4 =>
    P58_5 L x0 x1 x2 x_4 0 M)))) := QE58 L P58_5 (Classical.choose_spec XP58_5) x0 x1 x2 M
/-! #### morton.Walk -/
noncomputable def k44_22 (L : Rec) : KT := retK [.tmp 4]
def s44_22 (x5 : Nat) (M : AMem) : List Value := [junk, junk, junk, junk, junk, .pointer (some ⟨x5, 0, none⟩), junk, junk, junk, junk, junk, junk, junk, junk, junk, junk, junk, junk, junk, junk, junk, junk, junk, junk]
theorem XP44_22 : ∃ P : Rec → Nat → AMem → Res, P = fun (L : Rec) (x5 : Nat) (M : AMem) => code L c44_22 (k44_22 L) (s44_22 x5 M) M := ⟨_, rfl⟩
noncomputable def P44_22 : Rec → Nat → AMem → Res := Classical.choose XP44_22
noncomputable def k44_16 (L : Rec) (l : Nat) : KT := roundK l
def s44_16 (l : Nat) (x4n : Nat) (x5 : Nat) (x14 : Value) (y0 : Int) (y1 : Int) (M : AMem) : List Value := [junk, junk, junk, junk, .slice none x4n 0, .pointer (some ⟨x5, 0, none⟩), .int .i64 y0, .int .i64 y1, junk, junk, junk, junk, junk, junk, x14, .int .i64 y0, .int .i64 y1, junk, junk, junk, junk, junk, junk, junk]
def lo44_16 (s : LoopState) (pe : Option AExit) (x4n : Nat) (x5 : Nat) (x14 : Value) : ALoop := ⟨s, pe, [junk, junk, junk, junk, .slice none x4n 0, .pointer (some ⟨x5, 0, none⟩), junk, junk, junk, junk, junk, junk, junk, junk, x14, .tuple #[], .tuple #[], junk, junk, junk, junk, junk, junk, junk], [15, 16], .seq (.ops o44_18) (.ops o44_19), b44_16⟩
theorem XP44_16 : ∃ P : Rec → Nat → Nat → Nat → Value → Int → Int → AMem → Res, P = fun (L : Rec) (l : Nat) (x4n : Nat) (x5 : Nat) (x14 : Value) (y0 : Int) (y1 : Int) (M : AMem) => code L b44_16 (k44_16 L l) (s44_16 l x4n x5 x14 y0 y1 M) M := ⟨_, rfl⟩
noncomputable def P44_16 : Rec → Nat → Nat → Nat → Value → Int → Int → AMem → Res := Classical.choose XP44_16
theorem G44_22 (L : Rec) (x5 : Nat) (M : AMem) : code L (.seq (.ops o44_23) (.ret)) (retK [.tmp 4]) [junk, junk, junk, junk, junk, .pointer (some ⟨x5, 0, none⟩), junk, junk, junk, junk, junk, junk, junk, junk, junk, junk, junk, junk, junk, junk, junk, junk, junk, junk] M =
  (Option.bind (sliceOf? (AMem.ld M x5 0)) fun s_1 =>
    some (.slice s_1.1 s_1.2.1 s_1.2.2, M)) := by kernel_rfl
theorem QP44_22_eq (L : Rec) (P44_22 : Rec → Nat → AMem → Res) (hP44_22 : P44_22 = fun (L : Rec) (x5 : Nat) (M : AMem) => code L c44_22 (k44_22 L) (s44_22 x5 M) M) (x5 : Nat) (M : AMem) : P44_22 L x5 M =
  (Option.bind (sliceOf? (AMem.ld M x5 0)) fun s_1 =>
    some (.slice s_1.1 s_1.2.1 s_1.2.2, M)) := by
  subst hP44_22; exact Eq.mp (by kernel_rfl) (G44_22 L  x5 M)
theorem P44_22_eq (L : Rec) (x5 : Nat) (M : AMem) : P44_22 L x5 M =
  (Option.bind (sliceOf? (AMem.ld M x5 0)) fun s_1 =>
    some (.slice s_1.1 s_1.2.1 s_1.2.2, M)) := QP44_22_eq L P44_22 (Classical.choose_spec XP44_22) x5 M
theorem G44_16 (L : Rec) (l : Nat) (x4n : Nat) (x5 : Nat) (x14 : Value) (y0 : Int) (y1 : Int) (M : AMem) : code L (.block 1 (.ops o44_21)) (roundK l) [junk, junk, junk, junk, .slice none x4n 0, .pointer (some ⟨x5, 0, none⟩), .int .i64 y0, .int .i64 y1, junk, junk, junk, junk, junk, junk, x14, .int .i64 y0, .int .i64 y1, junk, junk, junk, junk, junk, junk, junk] M =
  (Option.bind (sliceOf? (AMem.ld M x5 0)) fun s_1 =>
    (Option.bind (rowOf (M ++ [AObj.cells [.int .i64 y0, .int .i64 y1] ⟨false, 0⟩]) 2 (.slice (some ⟨(List.length M), 0, none⟩) 1 2)) fun row_2 =>
    (appendK 2 16 s_1.1 s_1.2.1 s_1.2.2 1 row_2 (M ++ [AObj.cells [.int .i64 y0, .int .i64 y1] ⟨false, 0⟩]) fun p_3 n_4 c_5 M_6 =>
    (Option.bind (AMem.wr M_6 x5 0 [.slice p_3 n_4 c_5]) fun M_7 =>
    roundK l AExit.normal [] M_7)))) := by kernel_rfl
theorem QP44_16_eq (L : Rec) (P44_16 : Rec → Nat → Nat → Nat → Value → Int → Int → AMem → Res) (hP44_16 : P44_16 = fun (L : Rec) (l : Nat) (x4n : Nat) (x5 : Nat) (x14 : Value) (y0 : Int) (y1 : Int) (M : AMem) => code L b44_16 (k44_16 L l) (s44_16 l x4n x5 x14 y0 y1 M) M) (l : Nat) (x4n : Nat) (x5 : Nat) (x14 : Value) (y0 : Int) (y1 : Int) (M : AMem) : P44_16 L l x4n x5 x14 y0 y1 M =
  (Option.bind (sliceOf? (AMem.ld M x5 0)) fun s_1 =>
    (Option.bind (rowOf (M ++ [AObj.cells [.int .i64 y0, .int .i64 y1] ⟨false, 0⟩]) 2 (.slice (some ⟨(List.length M), 0, none⟩) 1 2)) fun row_2 =>
    (appendK 2 16 s_1.1 s_1.2.1 s_1.2.2 1 row_2 (M ++ [AObj.cells [.int .i64 y0, .int .i64 y1] ⟨false, 0⟩]) fun p_3 n_4 c_5 M_6 =>
    (Option.bind (AMem.wr M_6 x5 0 [.slice p_3 n_4 c_5]) fun M_7 =>
    roundK l AExit.normal [] M_7)))) := by
  subst hP44_16; exact Eq.mp (by kernel_rfl) (G44_16 L  l x4n x5 x14 y0 y1 M)
theorem P44_16_eq (L : Rec) (l : Nat) (x4n : Nat) (x5 : Nat) (x14 : Value) (y0 : Int) (y1 : Int) (M : AMem) : P44_16 L l x4n x5 x14 y0 y1 M =
  (Option.bind (sliceOf? (AMem.ld M x5 0)) fun s_1 =>
    (Option.bind (rowOf (M ++ [AObj.cells [.int .i64 y0, .int .i64 y1] ⟨false, 0⟩]) 2 (.slice (some ⟨(List.length M), 0, none⟩) 1 2)) fun row_2 =>
    (appendK 2 16 s_1.1 s_1.2.1 s_1.2.2 1 row_2 (M ++ [AObj.cells [.int .i64 y0, .int .i64 y1] ⟨false, 0⟩]) fun p_3 n_4 c_5 M_6 =>
    (Option.bind (AMem.wr M_6 x5 0 [.slice p_3 n_4 c_5]) fun M_7 =>
    roundK l AExit.normal [] M_7)))) := QP44_16_eq L P44_16 (Classical.choose_spec XP44_16) l x4n x5 x14 y0 y1 M
theorem R44_16 (L : Rec) (hR : ∀ l args A, L.round l args A = roundF L l args A) (l : Nat) (x4n : Nat) (x5 : Nat) (x14 : Value) (y0 : Int) (y1 : Int) (M : AMem) (pe : Option AExit) (hM : M[l]? = some (.loop (lo44_16 .ready pe x4n x5 x14))) : L.round l [.int .i64 y0, .int .i64 y1] M =
  P44_16 L l x4n x5 x14 y0 y1 (M.set l (.loop (lo44_16 .busy pe x4n x5 x14))) := by
  rw [hR, roundF_ops hM rfl rfl (s44_16 l x4n x5 x14 y0 y1 M) (fun K => by kernel_rfl)]; exact (congrFun (congrFun (congrFun (congrFun (congrFun (congrFun (congrFun (congrFun (Classical.choose_spec XP44_16) L) l) x4n) x5) x14) y0) y1) _).symm
theorem GE44 (L : Rec) (b44_16 c44_22 : ACode) (x0 : Int) (x1 : Int) (M : AMem) : enterF L ⟨24, [.tmp 4], .seq (.ops o44_1) (.seq (.seq (.ops o44_4) (.cond (.tmp 11) (.seq (.ops o44_7) (.ret)) (.skip))) (.seq (.ops o44_11) (.seq (.seq (.ops o44_14) (.block 0 (.clear [0, 1, 2, 3, 6, 7, 8, 9, 10, 11, 12, 13, 17, 18, 19, 20, 21, 22, 23] (.rangeFunc (.tmp 14) [15, 16] (.seq (.ops o44_18) (.ops o44_19)) b44_16)))) (.clear [0, 1, 2, 3, 4, 6, 7, 8, 9, 10, 11, 12, 13, 14, 15, 16, 17, 18, 19, 20, 21, 22, 23] c44_22))))⟩ [.int .i64 x0, .int .i64 x1] M =
  (Option.bind (L.call 56 [.int .i64 x0, .int .i64 x1] []) fun r_1 =>
    (Option.bind (boolOf? (some r_1.1)) fun q_2 =>
    (if (!q_2) = true
    then some (.slice none 0 0, M)
    else (Option.bind (L.call 57 [.int .i64 x0, .int .i64 x1] (M ++ [AObj.cells [.slice none 0 0] ⟨false, 0⟩])) fun r_3 =>
      (Option.bind (anyOf? (some r_3.1)) fun u_4 =>
      (funK u_4 fun g_9 f_10 c_11 =>
      (Option.bind (L.call g_9 (f_10 ++ [.func (.yield (List.length r_3.2)) #[] #[]] ++ c_11) (r_3.2 ++ [AObj.loop ⟨.ready, none, [junk, junk, junk, junk, .slice none 0 0, .pointer (some ⟨(List.length M), 0, none⟩), junk, junk, junk, junk, junk, junk, junk, junk, u_4, .tuple #[], .tuple #[], junk, junk, junk, junk, junk, junk, junk], [15, 16], .seq (.ops o44_18) (.ops o44_19), b44_16⟩])) fun r_5 =>
      rangeK (List.length r_3.2) r_5 (fun M_7 =>
      code L c44_22 (retK [.tmp 4]) [junk, junk, junk, junk, junk, .pointer (some ⟨(List.length M), 0, none⟩), junk, junk, junk, junk, junk, junk, junk, junk, junk, junk, junk, junk, junk, junk, junk, junk, junk, junk] M_7) (fun e_6 M_8 => (blockK 0 (seqK (code L (.clear [0, 1, 2, 3, 4, 6, 7, 8, 9, 10, 11, 12, 13, 14, 15, 16, 17, 18, 19, 20, 21, 22, 23] c44_22) (retK [.tmp 4])) (retK [.tmp 4]))) e_6 [junk, junk, junk, junk, .slice none 0 0, .pointer (some ⟨(List.length M), 0, none⟩), junk, junk, junk, junk, junk, junk, junk, junk, u_4, .tuple #[], .tuple #[], junk, junk, junk, junk, junk, junk, junk] M_8)))))))) := by kernel_rfl
theorem QE44 (L : Rec) (P44_22 : Rec → Nat → AMem → Res) (hP44_22 : P44_22 = fun (L : Rec) (x5 : Nat) (M : AMem) => code L c44_22 (k44_22 L) (s44_22 x5 M) M) (x0 : Int) (x1 : Int) (M : AMem) : enterF L a44 [.int .i64 x0, .int .i64 x1] M =
  (Option.bind (L.call 56 [.int .i64 x0, .int .i64 x1] []) fun r_1 =>
    (Option.bind (boolOf? (some r_1.1)) fun q_2 =>
    (if (!q_2) = true
    then some (.slice none 0 0, M)
    else (Option.bind (L.call 57 [.int .i64 x0, .int .i64 x1] (M ++ [AObj.cells [.slice none 0 0] ⟨false, 0⟩])) fun r_3 =>
      (Option.bind (anyOf? (some r_3.1)) fun u_4 =>
      (funK u_4 fun g_9 f_10 c_11 =>
      (Option.bind (L.call g_9 (f_10 ++ [.func (.yield (List.length r_3.2)) #[] #[]] ++ c_11) (r_3.2 ++ [AObj.loop (lo44_16 .ready none 0 (List.length M) u_4)])) fun r_5 =>
      rangeK (List.length r_3.2) r_5 (fun M_7 =>
      P44_22 L (List.length M) M_7) (fun e_6 M_8 => (blockK 0 (seqK (code L (.clear [0, 1, 2, 3, 4, 6, 7, 8, 9, 10, 11, 12, 13, 14, 15, 16, 17, 18, 19, 20, 21, 22, 23] c44_22) (retK [.tmp 4])) (retK [.tmp 4]))) e_6 [junk, junk, junk, junk, .slice none 0 0, .pointer (some ⟨(List.length M), 0, none⟩), junk, junk, junk, junk, junk, junk, junk, junk, u_4, .tuple #[], .tuple #[], junk, junk, junk, junk, junk, junk, junk] M_8)))))))) := by
  subst hP44_22; exact Eq.mp (by kernel_rfl) (GE44 L b44_16 c44_22 x0 x1 M)
theorem E44 (L : Rec) (x0 : Int) (x1 : Int) (M : AMem) : enterF L a44 [.int .i64 x0, .int .i64 x1] M =
  (Option.bind (L.call 56 [.int .i64 x0, .int .i64 x1] []) fun r_1 =>
    (Option.bind (boolOf? (some r_1.1)) fun q_2 =>
    (if (!q_2) = true
    then some (.slice none 0 0, M)
    else (Option.bind (L.call 57 [.int .i64 x0, .int .i64 x1] (M ++ [AObj.cells [.slice none 0 0] ⟨false, 0⟩])) fun r_3 =>
      (Option.bind (anyOf? (some r_3.1)) fun u_4 =>
      (funK u_4 fun g_9 f_10 c_11 =>
      (Option.bind (L.call g_9 (f_10 ++ [.func (.yield (List.length r_3.2)) #[] #[]] ++ c_11) (r_3.2 ++ [AObj.loop (lo44_16 .ready none 0 (List.length M) u_4)])) fun r_5 =>
      rangeK (List.length r_3.2) r_5 (fun M_7 =>
      P44_22 L (List.length M) M_7) (fun e_6 M_8 => (blockK 0 (seqK (code L (.clear [0, 1, 2, 3, 4, 6, 7, 8, 9, 10, 11, 12, 13, 14, 15, 16, 17, 18, 19, 20, 21, 22, 23] c44_22) (retK [.tmp 4])) (retK [.tmp 4]))) e_6 [junk, junk, junk, junk, .slice none 0 0, .pointer (some ⟨(List.length M), 0, none⟩), junk, junk, junk, junk, junk, junk, junk, junk, u_4, .tuple #[], .tuple #[], junk, junk, junk, junk, junk, junk, junk] M_8)))))))) := QE44 L P44_22 (Classical.choose_spec XP44_22) x0 x1 M
/-! #### morton.Order -/
noncomputable def k46_22 (L : Rec) : KT := retK [.tmp 4]
def s46_22 (x5 : Nat) (M : AMem) : List Value := [junk, junk, junk, junk, junk, .pointer (some ⟨x5, 0, none⟩), junk, junk, junk, junk, junk, junk, junk, junk, junk, junk, junk, junk, junk, junk, junk, junk, junk, junk, junk, junk]
theorem XP46_22 : ∃ P : Rec → Nat → AMem → Res, P = fun (L : Rec) (x5 : Nat) (M : AMem) => code L c46_22 (k46_22 L) (s46_22 x5 M) M := ⟨_, rfl⟩
noncomputable def P46_22 : Rec → Nat → AMem → Res := Classical.choose XP46_22
noncomputable def k46_16 (L : Rec) (l : Nat) : KT := roundK l
def s46_16 (l : Nat) (x2 : Nat) (x4n : Nat) (x5 : Nat) (x14 : Value) (y0 : Int) (y1 : Int) (M : AMem) : List Value := [junk, junk, .pointer (some ⟨x2, 0, none⟩), junk, .slice none x4n 0, .pointer (some ⟨x5, 0, none⟩), .int .i64 y0, .int .i64 y1, junk, junk, junk, junk, junk, junk, x14, .int .i64 y0, .int .i64 y1, junk, junk, junk, junk, junk, junk, junk, junk, junk]
def lo46_16 (s : LoopState) (pe : Option AExit) (x2 : Nat) (x4n : Nat) (x5 : Nat) (x14 : Value) : ALoop := ⟨s, pe, [junk, junk, .pointer (some ⟨x2, 0, none⟩), junk, .slice none x4n 0, .pointer (some ⟨x5, 0, none⟩), junk, junk, junk, junk, junk, junk, junk, junk, x14, .tuple #[], .tuple #[], junk, junk, junk, junk, junk, junk, junk, junk, junk], [15, 16], .seq (.ops o46_18) (.ops o46_19), b46_16⟩
theorem XP46_16 : ∃ P : Rec → Nat → Nat → Nat → Nat → Value → Int → Int → AMem → Res, P = fun (L : Rec) (l : Nat) (x2 : Nat) (x4n : Nat) (x5 : Nat) (x14 : Value) (y0 : Int) (y1 : Int) (M : AMem) => code L b46_16 (k46_16 L l) (s46_16 l x2 x4n x5 x14 y0 y1 M) M := ⟨_, rfl⟩
noncomputable def P46_16 : Rec → Nat → Nat → Nat → Nat → Value → Int → Int → AMem → Res := Classical.choose XP46_16
theorem G46_22 (L : Rec) (x5 : Nat) (M : AMem) : code L (.seq (.ops o46_23) (.ret)) (retK [.tmp 4]) [junk, junk, junk, junk, junk, .pointer (some ⟨x5, 0, none⟩), junk, junk, junk, junk, junk, junk, junk, junk, junk, junk, junk, junk, junk, junk, junk, junk, junk, junk, junk, junk] M =
  (Option.bind (sliceOf? (AMem.ld M x5 0)) fun s_1 =>
    some (.slice s_1.1 s_1.2.1 s_1.2.2, M)) := by kernel_rfl
theorem QP46_22_eq (L : Rec) (P46_22 : Rec → Nat → AMem → Res) (hP46_22 : P46_22 = fun (L : Rec) (x5 : Nat) (M : AMem) => code L c46_22 (k46_22 L) (s46_22 x5 M) M) (x5 : Nat) (M : AMem) : P46_22 L x5 M =
  (Option.bind (sliceOf? (AMem.ld M x5 0)) fun s_1 =>
    some (.slice s_1.1 s_1.2.1 s_1.2.2, M)) := by
  subst hP46_22; exact Eq.mp (by kernel_rfl) (G46_22 L  x5 M)
theorem P46_22_eq (L : Rec) (x5 : Nat) (M : AMem) : P46_22 L x5 M =
  (Option.bind (sliceOf? (AMem.ld M x5 0)) fun s_1 =>
    some (.slice s_1.1 s_1.2.1 s_1.2.2, M)) := QP46_22_eq L P46_22 (Classical.choose_spec XP46_22) x5 M
theorem G46_16 (L : Rec) (l : Nat) (x2 : Nat) (x4n : Nat) (x5 : Nat) (x14 : Value) (y0 : Int) (y1 : Int) (M : AMem) : code L (.block 1 (.ops o46_21)) (roundK l) [junk, junk, .pointer (some ⟨x2, 0, none⟩), junk, .slice none x4n 0, .pointer (some ⟨x5, 0, none⟩), .int .i64 y0, .int .i64 y1, junk, junk, junk, junk, junk, junk, x14, .int .i64 y0, .int .i64 y1, junk, junk, junk, junk, junk, junk, junk, junk, junk] M =
  (Option.bind (sliceOf? (AMem.ld M x5 0)) fun s_1 =>
    (Option.bind (intOf? .i64 (AMem.ld M x2 0)) fun x_2 =>
    (Option.bind (rowOf (M ++ [AObj.cells [.int .i64 (IntKind.wrap .i64 ((IntKind.wrap .i64 (y1 * x_2)) + y0))] ⟨false, 0⟩]) 1 (.slice (some ⟨(List.length M), 0, none⟩) 1 1)) fun row_3 =>
    (appendK 1 8 s_1.1 s_1.2.1 s_1.2.2 1 row_3 (M ++ [AObj.cells [.int .i64 (IntKind.wrap .i64 ((IntKind.wrap .i64 (y1 * x_2)) + y0))] ⟨false, 0⟩]) fun p_4 n_5 c_6 M_7 =>
    (Option.bind (AMem.wr M_7 x5 0 [.slice p_4 n_5 c_6]) fun M_8 =>
    roundK l AExit.normal [] M_8))))) := by kernel_rfl
theorem QP46_16_eq (L : Rec) (P46_16 : Rec → Nat → Nat → Nat → Nat → Value → Int → Int → AMem → Res) (hP46_16 : P46_16 = fun (L : Rec) (l : Nat) (x2 : Nat) (x4n : Nat) (x5 : Nat) (x14 : Value) (y0 : Int) (y1 : Int) (M : AMem) => code L b46_16 (k46_16 L l) (s46_16 l x2 x4n x5 x14 y0 y1 M) M) (l : Nat) (x2 : Nat) (x4n : Nat) (x5 : Nat) (x14 : Value) (y0 : Int) (y1 : Int) (M : AMem) : P46_16 L l x2 x4n x5 x14 y0 y1 M =
  (Option.bind (sliceOf? (AMem.ld M x5 0)) fun s_1 =>
    (Option.bind (intOf? .i64 (AMem.ld M x2 0)) fun x_2 =>
    (Option.bind (rowOf (M ++ [AObj.cells [.int .i64 (IntKind.wrap .i64 ((IntKind.wrap .i64 (y1 * x_2)) + y0))] ⟨false, 0⟩]) 1 (.slice (some ⟨(List.length M), 0, none⟩) 1 1)) fun row_3 =>
    (appendK 1 8 s_1.1 s_1.2.1 s_1.2.2 1 row_3 (M ++ [AObj.cells [.int .i64 (IntKind.wrap .i64 ((IntKind.wrap .i64 (y1 * x_2)) + y0))] ⟨false, 0⟩]) fun p_4 n_5 c_6 M_7 =>
    (Option.bind (AMem.wr M_7 x5 0 [.slice p_4 n_5 c_6]) fun M_8 =>
    roundK l AExit.normal [] M_8))))) := by
  subst hP46_16; exact Eq.mp (by kernel_rfl) (G46_16 L  l x2 x4n x5 x14 y0 y1 M)
theorem P46_16_eq (L : Rec) (l : Nat) (x2 : Nat) (x4n : Nat) (x5 : Nat) (x14 : Value) (y0 : Int) (y1 : Int) (M : AMem) : P46_16 L l x2 x4n x5 x14 y0 y1 M =
  (Option.bind (sliceOf? (AMem.ld M x5 0)) fun s_1 =>
    (Option.bind (intOf? .i64 (AMem.ld M x2 0)) fun x_2 =>
    (Option.bind (rowOf (M ++ [AObj.cells [.int .i64 (IntKind.wrap .i64 ((IntKind.wrap .i64 (y1 * x_2)) + y0))] ⟨false, 0⟩]) 1 (.slice (some ⟨(List.length M), 0, none⟩) 1 1)) fun row_3 =>
    (appendK 1 8 s_1.1 s_1.2.1 s_1.2.2 1 row_3 (M ++ [AObj.cells [.int .i64 (IntKind.wrap .i64 ((IntKind.wrap .i64 (y1 * x_2)) + y0))] ⟨false, 0⟩]) fun p_4 n_5 c_6 M_7 =>
    (Option.bind (AMem.wr M_7 x5 0 [.slice p_4 n_5 c_6]) fun M_8 =>
    roundK l AExit.normal [] M_8))))) := QP46_16_eq L P46_16 (Classical.choose_spec XP46_16) l x2 x4n x5 x14 y0 y1 M
theorem R46_16 (L : Rec) (hR : ∀ l args A, L.round l args A = roundF L l args A) (l : Nat) (x2 : Nat) (x4n : Nat) (x5 : Nat) (x14 : Value) (y0 : Int) (y1 : Int) (M : AMem) (pe : Option AExit) (hM : M[l]? = some (.loop (lo46_16 .ready pe x2 x4n x5 x14))) : L.round l [.int .i64 y0, .int .i64 y1] M =
  P46_16 L l x2 x4n x5 x14 y0 y1 (M.set l (.loop (lo46_16 .busy pe x2 x4n x5 x14))) := by
  rw [hR, roundF_ops hM rfl rfl (s46_16 l x2 x4n x5 x14 y0 y1 M) (fun K => by kernel_rfl)]; exact (congrFun (congrFun (congrFun (congrFun (congrFun (congrFun (congrFun (congrFun (congrFun (Classical.choose_spec XP46_16) L) l) x2) x4n) x5) x14) y0) y1) _).symm
theorem GE46 (L : Rec) (b46_16 c46_22 : ACode) (x0 : Int) (x1 : Int) (M : AMem) : enterF L ⟨26, [.tmp 4], .seq (.ops o46_1) (.seq (.seq (.ops o46_4) (.cond (.tmp 11) (.seq (.ops o46_7) (.ret)) (.skip))) (.seq (.ops o46_11) (.seq (.seq (.ops o46_14) (.block 0 (.clear [0, 1, 3, 6, 7, 8, 9, 10, 11, 12, 13, 17, 18, 19, 20, 21, 22, 23, 24, 25] (.rangeFunc (.tmp 14) [15, 16] (.seq (.ops o46_18) (.ops o46_19)) b46_16)))) (.clear [0, 1, 2, 3, 4, 6, 7, 8, 9, 10, 11, 12, 13, 14, 15, 16, 17, 18, 19, 20, 21, 22, 23, 24, 25] c46_22))))⟩ [.int .i64 x0, .int .i64 x1] M =
  (Option.bind (intOf? .i64 (AMem.ld (M ++ [AObj.cells [.int .i64 x0] ⟨false, 0⟩]) (List.length M) 0)) fun x_1 =>
    (Option.bind (L.call 56 [.int .i64 x_1, .int .i64 x1] []) fun r_2 =>
    (Option.bind (boolOf? (some r_2.1)) fun q_3 =>
    (if (!q_3) = true
    then some (.slice none 0 0, (M ++ [AObj.cells [.int .i64 x0] ⟨false, 0⟩]))
    else (Option.bind (intOf? .i64 (AMem.ld ((M ++ [AObj.cells [.int .i64 x0] ⟨false, 0⟩]) ++ [AObj.cells [.slice none 0 0] ⟨false, 0⟩]) (List.length M) 0)) fun x_4 =>
      (Option.bind (L.call 57 [.int .i64 x_4, .int .i64 x1] ((M ++ [AObj.cells [.int .i64 x0] ⟨false, 0⟩]) ++ [AObj.cells [.slice none 0 0] ⟨false, 0⟩])) fun r_5 =>
      (Option.bind (anyOf? (some r_5.1)) fun u_6 =>
      (funK u_6 fun g_11 f_12 c_13 =>
      (Option.bind (L.call g_11 (f_12 ++ [.func (.yield (List.length r_5.2)) #[] #[]] ++ c_13) (r_5.2 ++ [AObj.loop ⟨.ready, none, [junk, junk, .pointer (some ⟨(List.length M), 0, none⟩), junk, .slice none 0 0, .pointer (some ⟨(List.length (M ++ [AObj.cells [.int .i64 x0] ⟨false, 0⟩])), 0, none⟩), junk, junk, junk, junk, junk, junk, junk, junk, u_6, .tuple #[], .tuple #[], junk, junk, junk, junk, junk, junk, junk, junk, junk], [15, 16], .seq (.ops o46_18) (.ops o46_19), b46_16⟩])) fun r_7 =>
      rangeK (List.length r_5.2) r_7 (fun M_9 =>
      code L c46_22 (retK [.tmp 4]) [junk, junk, junk, junk, junk, .pointer (some ⟨(List.length (M ++ [AObj.cells [.int .i64 x0] ⟨false, 0⟩])), 0, none⟩), junk, junk, junk, junk, junk, junk, junk, junk, junk, junk, junk, junk, junk, junk, junk, junk, junk, junk, junk, junk] M_9) (fun e_8 M_10 => (blockK 0 (seqK (code L (.clear [0, 1, 2, 3, 4, 6, 7, 8, 9, 10, 11, 12, 13, 14, 15, 16, 17, 18, 19, 20, 21, 22, 23, 24, 25] c46_22) (retK [.tmp 4])) (retK [.tmp 4]))) e_8 [junk, junk, .pointer (some ⟨(List.length M), 0, none⟩), junk, .slice none 0 0, .pointer (some ⟨(List.length (M ++ [AObj.cells [.int .i64 x0] ⟨false, 0⟩])), 0, none⟩), junk, junk, junk, junk, junk, junk, junk, junk, u_6, .tuple #[], .tuple #[], junk, junk, junk, junk, junk, junk, junk, junk, junk] M_10)))))))))) := by kernel_rfl
theorem QE46 (L : Rec) (P46_22 : Rec → Nat → AMem → Res) (hP46_22 : P46_22 = fun (L : Rec) (x5 : Nat) (M : AMem) => code L c46_22 (k46_22 L) (s46_22 x5 M) M) (x0 : Int) (x1 : Int) (M : AMem) : enterF L a46 [.int .i64 x0, .int .i64 x1] M =
  (Option.bind (intOf? .i64 (AMem.ld (M ++ [AObj.cells [.int .i64 x0] ⟨false, 0⟩]) (List.length M) 0)) fun x_1 =>
    (Option.bind (L.call 56 [.int .i64 x_1, .int .i64 x1] []) fun r_2 =>
    (Option.bind (boolOf? (some r_2.1)) fun q_3 =>
    (if (!q_3) = true
    then some (.slice none 0 0, (M ++ [AObj.cells [.int .i64 x0] ⟨false, 0⟩]))
    else (Option.bind (intOf? .i64 (AMem.ld ((M ++ [AObj.cells [.int .i64 x0] ⟨false, 0⟩]) ++ [AObj.cells [.slice none 0 0] ⟨false, 0⟩]) (List.length M) 0)) fun x_4 =>
      (Option.bind (L.call 57 [.int .i64 x_4, .int .i64 x1] ((M ++ [AObj.cells [.int .i64 x0] ⟨false, 0⟩]) ++ [AObj.cells [.slice none 0 0] ⟨false, 0⟩])) fun r_5 =>
      (Option.bind (anyOf? (some r_5.1)) fun u_6 =>
      (funK u_6 fun g_11 f_12 c_13 =>
      (Option.bind (L.call g_11 (f_12 ++ [.func (.yield (List.length r_5.2)) #[] #[]] ++ c_13) (r_5.2 ++ [AObj.loop (lo46_16 .ready none (List.length M) 0 (List.length (M ++ [AObj.cells [.int .i64 x0] ⟨false, 0⟩])) u_6)])) fun r_7 =>
      rangeK (List.length r_5.2) r_7 (fun M_9 =>
      P46_22 L (List.length (M ++ [AObj.cells [.int .i64 x0] ⟨false, 0⟩])) M_9) (fun e_8 M_10 => (blockK 0 (seqK (code L (.clear [0, 1, 2, 3, 4, 6, 7, 8, 9, 10, 11, 12, 13, 14, 15, 16, 17, 18, 19, 20, 21, 22, 23, 24, 25] c46_22) (retK [.tmp 4])) (retK [.tmp 4]))) e_8 [junk, junk, .pointer (some ⟨(List.length M), 0, none⟩), junk, .slice none 0 0, .pointer (some ⟨(List.length (M ++ [AObj.cells [.int .i64 x0] ⟨false, 0⟩])), 0, none⟩), junk, junk, junk, junk, junk, junk, junk, junk, u_6, .tuple #[], .tuple #[], junk, junk, junk, junk, junk, junk, junk, junk, junk] M_10)))))))))) := by
  subst hP46_22; exact Eq.mp (by kernel_rfl) (GE46 L b46_16 c46_22 x0 x1 M)
theorem E46 (L : Rec) (x0 : Int) (x1 : Int) (M : AMem) : enterF L a46 [.int .i64 x0, .int .i64 x1] M =
  (Option.bind (intOf? .i64 (AMem.ld (M ++ [AObj.cells [.int .i64 x0] ⟨false, 0⟩]) (List.length M) 0)) fun x_1 =>
    (Option.bind (L.call 56 [.int .i64 x_1, .int .i64 x1] []) fun r_2 =>
    (Option.bind (boolOf? (some r_2.1)) fun q_3 =>
    (if (!q_3) = true
    then some (.slice none 0 0, (M ++ [AObj.cells [.int .i64 x0] ⟨false, 0⟩]))
    else (Option.bind (intOf? .i64 (AMem.ld ((M ++ [AObj.cells [.int .i64 x0] ⟨false, 0⟩]) ++ [AObj.cells [.slice none 0 0] ⟨false, 0⟩]) (List.length M) 0)) fun x_4 =>
      (Option.bind (L.call 57 [.int .i64 x_4, .int .i64 x1] ((M ++ [AObj.cells [.int .i64 x0] ⟨false, 0⟩]) ++ [AObj.cells [.slice none 0 0] ⟨false, 0⟩])) fun r_5 =>
      (Option.bind (anyOf? (some r_5.1)) fun u_6 =>
      (funK u_6 fun g_11 f_12 c_13 =>
      (Option.bind (L.call g_11 (f_12 ++ [.func (.yield (List.length r_5.2)) #[] #[]] ++ c_13) (r_5.2 ++ [AObj.loop (lo46_16 .ready none (List.length M) 0 (List.length (M ++ [AObj.cells [.int .i64 x0] ⟨false, 0⟩])) u_6)])) fun r_7 =>
      rangeK (List.length r_5.2) r_7 (fun M_9 =>
      P46_22 L (List.length (M ++ [AObj.cells [.int .i64 x0] ⟨false, 0⟩])) M_9) (fun e_8 M_10 => (blockK 0 (seqK (code L (.clear [0, 1, 2, 3, 4, 6, 7, 8, 9, 10, 11, 12, 13, 14, 15, 16, 17, 18, 19, 20, 21, 22, 23, 24, 25] c46_22) (retK [.tmp 4])) (retK [.tmp 4]))) e_8 [junk, junk, .pointer (some ⟨(List.length M), 0, none⟩), junk, .slice none 0 0, .pointer (some ⟨(List.length (M ++ [AObj.cells [.int .i64 x0] ⟨false, 0⟩])), 0, none⟩), junk, junk, junk, junk, junk, junk, junk, junk, u_6, .tuple #[], .tuple #[], junk, junk, junk, junk, junk, junk, junk, junk, junk] M_10)))))))))) := QE46 L P46_22 (Classical.choose_spec XP46_22) x0 x1 M
end Go.Proofs.Ytaepdefnomcllaa
