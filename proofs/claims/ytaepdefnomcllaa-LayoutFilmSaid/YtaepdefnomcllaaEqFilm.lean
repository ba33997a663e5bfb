/- What the pieces of some functions come to. -/
import Derived.Test.YtaepdefnomcllaaCode
set_option linter.unusedVariables false
set_option maxRecDepth 100000
namespace Go.Proofs.Ytaepdefnomcllaa
open Go Go.Ax
/-! #### layout.Film -/
noncomputable def k37_18 (L : Rec) : KT := blockK 0 (seqK (code L (.clear [0, 1, 2, 3, 4, 5, 7, 8, 9, 10, 11, 12, 13, 14, 15, 16, 17, 18, 19, 20, 21, 22, 23, 24, 25, 26, 27, 28, 29, 30, 31, 32, 33, 34, 35, 36, 37, 38, 39, 40, 41, 42, 43] c37_31) (retK [.tmp 4])) (retK [.tmp 4]))
def s37_18 (x5 : Option Addr) (x5n : Nat) (x5c : Nat) (x6 : Nat) (x6n : Nat) (x29 : Int) (x30 : Int) (M : AMem) : List Value := [junk, junk, junk, junk, junk, .slice x5 x5n x5c, .slice (some ⟨x6, 0, none⟩) x6n 3, junk, junk, junk, junk, junk, junk, junk, junk, junk, junk, junk, junk, junk, junk, junk, junk, junk, junk, junk, junk, junk, junk, .int .i64 x29, .int .i64 x30, junk, junk, junk, junk, junk, junk, junk, junk, junk, junk, junk, junk, junk]
theorem XP37_18 : ∃ P : Rec → (Option Addr) → Nat → Nat → Nat → Nat → Int → Int → AMem → Res, P = fun (L : Rec) (x5 : Option Addr) (x5n : Nat) (x5c : Nat) (x6 : Nat) (x6n : Nat) (x29 : Int) (x30 : Int) (M : AMem) => L.loop b37_18 (k37_18 L) (s37_18 x5 x5n x5c x6 x6n x29 x30 M) M := ⟨_, rfl⟩
noncomputable def P37_18 : Rec → (Option Addr) → Nat → Nat → Nat → Nat → Int → Int → AMem → Res := Classical.choose XP37_18
noncomputable def k37_30 (L : Rec) : KT := postK [0, 1, 2, 3, 4, 7, 8, 9, 10, 11, 12, 13, 14, 15, 16, 17, 18, 19, 20, 21, 22, 23, 24, 25, 26, 27, 28, 31, 32, 33, 34, 35, 36, 37, 38, 39, 40, 41, 42, 43] (loopK L b37_18 (blockK 0 (seqK (code L (.clear [0, 1, 2, 3, 4, 5, 7, 8, 9, 10, 11, 12, 13, 14, 15, 16, 17, 18, 19, 20, 21, 22, 23, 24, 25, 26, 27, 28, 29, 30, 31, 32, 33, 34, 35, 36, 37, 38, 39, 40, 41, 42, 43] c37_31) (retK [.tmp 4])) (retK [.tmp 4]))))
def s37_30 (x5 : Option Addr) (x5n : Nat) (x5c : Nat) (x6 : Nat) (x6n : Nat) (x29 : Int) (x30 : Int) (M : AMem) : List Value := [junk, junk, junk, junk, junk, .slice x5 x5n x5c, .slice (some ⟨x6, 0, none⟩) x6n 3, junk, junk, junk, junk, junk, junk, junk, junk, junk, junk, junk, junk, junk, junk, junk, junk, junk, junk, junk, junk, junk, junk, .int .i64 x29, .int .i64 x30, junk, junk, junk, junk, junk, junk, junk, junk, junk, junk, junk, junk, junk]
theorem XP37_30 : ∃ P : Rec → (Option Addr) → Nat → Nat → Nat → Nat → Int → Int → AMem → Res, P = fun (L : Rec) (x5 : Option Addr) (x5n : Nat) (x5c : Nat) (x6 : Nat) (x6n : Nat) (x29 : Int) (x30 : Int) (M : AMem) => code L c37_30 (k37_30 L) (s37_30 x5 x5n x5c x6 x6n x29 x30 M) M := ⟨_, rfl⟩
noncomputable def P37_30 : Rec → (Option Addr) → Nat → Nat → Nat → Nat → Int → Int → AMem → Res := Classical.choose XP37_30
noncomputable def k37_31 (L : Rec) : KT := retK [.tmp 4]
def s37_31 (x6 : Nat) (x6n : Nat) (M : AMem) : List Value := [junk, junk, junk, junk, junk, junk, .slice (some ⟨x6, 0, none⟩) x6n 3, junk, junk, junk, junk, junk, junk, junk, junk, junk, junk, junk, junk, junk, junk, junk, junk, junk, junk, junk, junk, junk, junk, junk, junk, junk, junk, junk, junk, junk, junk, junk, junk, junk, junk, junk, junk, junk]
theorem XP37_31 : ∃ P : Rec → Nat → Nat → AMem → Res, P = fun (L : Rec) (x6 : Nat) (x6n : Nat) (M : AMem) => code L c37_31 (k37_31 L) (s37_31 x6 x6n M) M := ⟨_, rfl⟩
noncomputable def P37_31 : Rec → Nat → Nat → AMem → Res := Classical.choose XP37_31
theorem G37_18 (L : Rec) (b37_18 c37_30 c37_31 : ACode) (x5 : Option Addr) (x5n : Nat) (x5c : Nat) (x6 : Nat) (x6n : Nat) (x29 : Int) (x30 : Int) (M : AMem) : code L (.post (.seq (.ops o37_20) (.seq (.cond (.tmp 31) (.skip) (.exit 0)) (.seq (.block 1 (.seq (.ops o37_28) (.draw [] 0 o37_29 []))) (.clear [0, 1, 2, 3, 4, 7, 8, 9, 10, 11, 12, 13, 14, 15, 16, 17, 18, 19, 20, 21, 22, 23, 24, 25, 26, 27, 28, 31, 32, 33, 34, 35, 36, 37, 38, 39, 40, 41, 42, 43] c37_30)))) [0, 1, 2, 3, 4, 7, 8, 9, 10, 11, 12, 13, 14, 15, 16, 17, 18, 19, 20, 21, 22, 23, 24, 25, 26, 27, 28, 31, 32, 33, 34, 35, 36, 37, 38, 39, 40, 41, 42, 43]) (loopK L b37_18 (blockK 0 (seqK (code L (.clear [0, 1, 2, 3, 4, 5, 7, 8, 9, 10, 11, 12, 13, 14, 15, 16, 17, 18, 19, 20, 21, 22, 23, 24, 25, 26, 27, 28, 29, 30, 31, 32, 33, 34, 35, 36, 37, 38, 39, 40, 41, 42, 43] c37_31) (retK [.tmp 4])) (retK [.tmp 4])))) [junk, junk, junk, junk, junk, .slice x5 x5n x5c, .slice (some ⟨x6, 0, none⟩) x6n 3, junk, junk, junk, junk, junk, junk, junk, junk, junk, junk, junk, junk, junk, junk, junk, junk, junk, junk, junk, junk, junk, junk, .int .i64 x29, .int .i64 x30, junk, junk, junk, junk, junk, junk, junk, junk, junk, junk, junk, junk, junk] M =
  (if (decide (x30 < x29)) = true
    then (if 0 ≤ x30 ∧ x30 < (Int.ofNat x6n)
      then (if 0 ≤ (IntKind.wrap .i64 (3 * x30)) ∧ (IntKind.wrap .i64 (3 * x30)) ≤ (Int.ofNat x5n) ∧ (Int.ofNat x5n) ≤ (Int.ofNat x5n)
        then (Option.bind (rowOf M 1 (.slice (Option.map (fun p => (⟨p.block, p.off + ((Int.toNat (IntKind.wrap .i64 (3 * x30))) * 1), p.spot⟩ : Addr)) x5) (Int.toNat ((Int.ofNat x5n) - (IntKind.wrap .i64 (3 * x30)))) (if x5c = 1 then 1 else 0))) fun row_1 =>
          (copyK 1 (some ⟨x6, (0 + ((Int.toNat x30) * 3)), none⟩) 3 (Int.toNat ((Int.ofNat x5n) - (IntKind.wrap .i64 (3 * x30)))) row_1 M fun n_2 M_3 =>
          code L c37_30 (postK [0, 1, 2, 3, 4, 7, 8, 9, 10, 11, 12, 13, 14, 15, 16, 17, 18, 19, 20, 21, 22, 23, 24, 25, 26, 27, 28, 31, 32, 33, 34, 35, 36, 37, 38, 39, 40, 41, 42, 43] (loopK L b37_18 (blockK 0 (seqK (code L (.clear [0, 1, 2, 3, 4, 5, 7, 8, 9, 10, 11, 12, 13, 14, 15, 16, 17, 18, 19, 20, 21, 22, 23, 24, 25, 26, 27, 28, 29, 30, 31, 32, 33, 34, 35, 36, 37, 38, 39, 40, 41, 42, 43] c37_31) (retK [.tmp 4])) (retK [.tmp 4]))))) [junk, junk, junk, junk, junk, .slice x5 x5n x5c, .slice (some ⟨x6, 0, none⟩) x6n 3, junk, junk, junk, junk, junk, junk, junk, junk, junk, junk, junk, junk, junk, junk, junk, junk, junk, junk, junk, junk, junk, junk, .int .i64 x29, .int .i64 x30, junk, junk, junk, junk, junk, junk, junk, junk, junk, junk, junk, junk, junk] M_3))
        else none)
      else none)
    else code L c37_31 (retK [.tmp 4]) [junk, junk, junk, junk, junk, junk, .slice (some ⟨x6, 0, none⟩) x6n 3, junk, junk, junk, junk, junk, junk, junk, junk, junk, junk, junk, junk, junk, junk, junk, junk, junk, junk, junk, junk, junk, junk, junk, junk, junk, junk, junk, junk, junk, junk, junk, junk, junk, junk, junk, junk, junk] M) := by kernel_rfl
theorem QP37_18_eq (L : Rec) (hL : ∀ b K t A, L.loop b K t A = code L b (loopK L b K) t A) (P37_18 : Rec → (Option Addr) → Nat → Nat → Nat → Nat → Int → Int → AMem → Res) (hP37_18 : P37_18 = fun (L : Rec) (x5 : Option Addr) (x5n : Nat) (x5c : Nat) (x6 : Nat) (x6n : Nat) (x29 : Int) (x30 : Int) (M : AMem) => L.loop b37_18 (k37_18 L) (s37_18 x5 x5n x5c x6 x6n x29 x30 M) M) (P37_30 : Rec → (Option Addr) → Nat → Nat → Nat → Nat → Int → Int → AMem → Res) (hP37_30 : P37_30 = fun (L : Rec) (x5 : Option Addr) (x5n : Nat) (x5c : Nat) (x6 : Nat) (x6n : Nat) (x29 : Int) (x30 : Int) (M : AMem) => code L c37_30 (k37_30 L) (s37_30 x5 x5n x5c x6 x6n x29 x30 M) M) (P37_31 : Rec → Nat → Nat → AMem → Res) (hP37_31 : P37_31 = fun (L : Rec) (x6 : Nat) (x6n : Nat) (M : AMem) => code L c37_31 (k37_31 L) (s37_31 x6 x6n M) M) (x5 : Option Addr) (x5n : Nat) (x5c : Nat) (x6 : Nat) (x6n : Nat) (x29 : Int) (x30 : Int) (M : AMem) : P37_18 L x5 x5n x5c x6 x6n x29 x30 M =
  (if (decide (x30 < x29)) = true
    then (if 0 ≤ x30 ∧ x30 < (Int.ofNat x6n)
      then (if 0 ≤ (IntKind.wrap .i64 (3 * x30)) ∧ (IntKind.wrap .i64 (3 * x30)) ≤ (Int.ofNat x5n) ∧ (Int.ofNat x5n) ≤ (Int.ofNat x5n)
        then (Option.bind (rowOf M 1 (.slice (Option.map (fun p => (⟨p.block, p.off + ((Int.toNat (IntKind.wrap .i64 (3 * x30))) * 1), p.spot⟩ : Addr)) x5) (Int.toNat ((Int.ofNat x5n) - (IntKind.wrap .i64 (3 * x30)))) (if x5c = 1 then 1 else 0))) fun row_1 =>
          (copyK 1 (some ⟨x6, (0 + ((Int.toNat x30) * 3)), none⟩) 3 (Int.toNat ((Int.ofNat x5n) - (IntKind.wrap .i64 (3 * x30)))) row_1 M fun n_2 M_3 =>
          P37_30 L x5 x5n x5c x6 x6n x29 x30 M_3))
        else none)
      else none)
    else P37_31 L x6 x6n M) := by
  subst hP37_18; subst hP37_30; subst hP37_31; exact Eq.trans (b := code L b37_18 (loopK L b37_18 (k37_18 L)) (s37_18 x5 x5n x5c x6 x6n x29 x30 M) M) (hL b37_18 (k37_18 L) (s37_18 x5 x5n x5c x6 x6n x29 x30 M) M) (Eq.mp (by kernel_rfl) (G37_18 L b37_18 c37_30 c37_31 x5 x5n x5c x6 x6n x29 x30 M))
theorem P37_18_eq (L : Rec) (hL : ∀ b K t A, L.loop b K t A = code L b (loopK L b K) t A) (x5 : Option Addr) (x5n : Nat) (x5c : Nat) (x6 : Nat) (x6n : Nat) (x29 : Int) (x30 : Int) (M : AMem) : P37_18 L x5 x5n x5c x6 x6n x29 x30 M =
  (if (decide (x30 < x29)) = true
    then (if 0 ≤ x30 ∧ x30 < (Int.ofNat x6n)
      then (if 0 ≤ (IntKind.wrap .i64 (3 * x30)) ∧ (IntKind.wrap .i64 (3 * x30)) ≤ (Int.ofNat x5n) ∧ (Int.ofNat x5n) ≤ (Int.ofNat x5n)
        then (Option.bind (rowOf M 1 (.slice (Option.map (fun p => (⟨p.block, p.off + ((Int.toNat (IntKind.wrap .i64 (3 * x30))) * 1), p.spot⟩ : Addr)) x5) (Int.toNat ((Int.ofNat x5n) - (IntKind.wrap .i64 (3 * x30)))) (if x5c = 1 then 1 else 0))) fun row_1 =>
          (copyK 1 (some ⟨x6, (0 + ((Int.toNat x30) * 3)), none⟩) 3 (Int.toNat ((Int.ofNat x5n) - (IntKind.wrap .i64 (3 * x30)))) row_1 M fun n_2 M_3 =>
          P37_30 L x5 x5n x5c x6 x6n x29 x30 M_3))
        else none)
      else none)
    else P37_31 L x6 x6n M) := QP37_18_eq L hL P37_18 (Classical.choose_spec XP37_18) P37_30 (Classical.choose_spec XP37_30) P37_31 (Classical.choose_spec XP37_31) x5 x5n x5c x6 x6n x29 x30 M
theorem G37_30 (L : Rec) (b37_18 c37_31 : ACode) (x5 : Option Addr) (x5n : Nat) (x5c : Nat) (x6 : Nat) (x6n : Nat) (x29 : Int) (x30 : Int) (M : AMem) : code L (.ops o37_30) (postK [0, 1, 2, 3, 4, 7, 8, 9, 10, 11, 12, 13, 14, 15, 16, 17, 18, 19, 20, 21, 22, 23, 24, 25, 26, 27, 28, 31, 32, 33, 34, 35, 36, 37, 38, 39, 40, 41, 42, 43] (loopK L b37_18 (blockK 0 (seqK (code L (.clear [0, 1, 2, 3, 4, 5, 7, 8, 9, 10, 11, 12, 13, 14, 15, 16, 17, 18, 19, 20, 21, 22, 23, 24, 25, 26, 27, 28, 29, 30, 31, 32, 33, 34, 35, 36, 37, 38, 39, 40, 41, 42, 43] c37_31) (retK [.tmp 4])) (retK [.tmp 4]))))) [junk, junk, junk, junk, junk, .slice x5 x5n x5c, .slice (some ⟨x6, 0, none⟩) x6n 3, junk, junk, junk, junk, junk, junk, junk, junk, junk, junk, junk, junk, junk, junk, junk, junk, junk, junk, junk, junk, junk, junk, .int .i64 x29, .int .i64 x30, junk, junk, junk, junk, junk, junk, junk, junk, junk, junk, junk, junk, junk] M =
  L.loop b37_18 (blockK 0 (seqK (code L (.clear [0, 1, 2, 3, 4, 5, 7, 8, 9, 10, 11, 12, 13, 14, 15, 16, 17, 18, 19, 20, 21, 22, 23, 24, 25, 26, 27, 28, 29, 30, 31, 32, 33, 34, 35, 36, 37, 38, 39, 40, 41, 42, 43] c37_31) (retK [.tmp 4])) (retK [.tmp 4]))) [junk, junk, junk, junk, junk, .slice x5 x5n x5c, .slice (some ⟨x6, 0, none⟩) x6n 3, junk, junk, junk, junk, junk, junk, junk, junk, junk, junk, junk, junk, junk, junk, junk, junk, junk, junk, junk, junk, junk, junk, .int .i64 x29, .int .i64 (IntKind.wrap .i64 (x30 + 1)), junk, junk, junk, junk, junk, junk, junk, junk, junk, junk, junk, junk, junk] M := by kernel_rfl
theorem QP37_30_eq (L : Rec) (P37_18 : Rec → (Option Addr) → Nat → Nat → Nat → Nat → Int → Int → AMem → Res) (hP37_18 : P37_18 = fun (L : Rec) (x5 : Option Addr) (x5n : Nat) (x5c : Nat) (x6 : Nat) (x6n : Nat) (x29 : Int) (x30 : Int) (M : AMem) => L.loop b37_18 (k37_18 L) (s37_18 x5 x5n x5c x6 x6n x29 x30 M) M) (P37_30 : Rec → (Option Addr) → Nat → Nat → Nat → Nat → Int → Int → AMem → Res) (hP37_30 : P37_30 = fun (L : Rec) (x5 : Option Addr) (x5n : Nat) (x5c : Nat) (x6 : Nat) (x6n : Nat) (x29 : Int) (x30 : Int) (M : AMem) => code L c37_30 (k37_30 L) (s37_30 x5 x5n x5c x6 x6n x29 x30 M) M) (x5 : Option Addr) (x5n : Nat) (x5c : Nat) (x6 : Nat) (x6n : Nat) (x29 : Int) (x30 : Int) (M : AMem) : P37_30 L x5 x5n x5c x6 x6n x29 x30 M =
  P37_18 L x5 x5n x5c x6 x6n x29 (IntKind.wrap .i64 (x30 + 1)) M := by
  subst hP37_18; subst hP37_30; exact Eq.mp (by kernel_rfl) (G37_30 L b37_18 c37_31 x5 x5n x5c x6 x6n x29 x30 M)
theorem P37_30_eq (L : Rec) (x5 : Option Addr) (x5n : Nat) (x5c : Nat) (x6 : Nat) (x6n : Nat) (x29 : Int) (x30 : Int) (M : AMem) : P37_30 L x5 x5n x5c x6 x6n x29 x30 M =
  P37_18 L x5 x5n x5c x6 x6n x29 (IntKind.wrap .i64 (x30 + 1)) M := QP37_30_eq L P37_18 (Classical.choose_spec XP37_18) P37_30 (Classical.choose_spec XP37_30) x5 x5n x5c x6 x6n x29 x30 M
theorem G37_31 (L : Rec) (x6 : Nat) (x6n : Nat) (M : AMem) : code L (.seq (.ops o37_32) (.ret)) (retK [.tmp 4]) [junk, junk, junk, junk, junk, junk, .slice (some ⟨x6, 0, none⟩) x6n 3, junk, junk, junk, junk, junk, junk, junk, junk, junk, junk, junk, junk, junk, junk, junk, junk, junk, junk, junk, junk, junk, junk, junk, junk, junk, junk, junk, junk, junk, junk, junk, junk, junk, junk, junk, junk, junk] M =
  some (.slice (some ⟨x6, 0, none⟩) x6n 3, M) := by kernel_rfl
theorem QP37_31_eq (L : Rec) (P37_31 : Rec → Nat → Nat → AMem → Res) (hP37_31 : P37_31 = fun (L : Rec) (x6 : Nat) (x6n : Nat) (M : AMem) => code L c37_31 (k37_31 L) (s37_31 x6 x6n M) M) (x6 : Nat) (x6n : Nat) (M : AMem) : P37_31 L x6 x6n M =
  some (.slice (some ⟨x6, 0, none⟩) x6n 3, M) := by
  subst hP37_31; exact Eq.mp (by kernel_rfl) (G37_31 L  x6 x6n M)
theorem P37_31_eq (L : Rec) (x6 : Nat) (x6n : Nat) (M : AMem) : P37_31 L x6 x6n M =
  some (.slice (some ⟨x6, 0, none⟩) x6n 3, M) := QP37_31_eq L P37_31 (Classical.choose_spec XP37_31) x6 x6n M
theorem GE37 (L : Rec) (b37_18 c37_31 : ACode) (x0_0 : Int) (x0_1 : Int) (x1 : Option Addr) (M : AMem) : enterF L ⟨44, [.tmp 4], .seq (.ops o37_1) (.seq (.seq (.draw [] 0 o37_4 [(6, 5)]) (.cond (.tmp 17) (.seq (.ops o37_7) (.ret)) (.skip))) (.seq (.draw [] 0 o37_11 []) (.seq (.ops o37_13) (.seq (.seq (.ops o37_16) (.block 0 (.clear [0, 1, 2, 3, 4, 7, 8, 9, 10, 11, 12, 13, 14, 15, 16, 17, 18, 19, 20, 21, 22, 23, 24, 25, 26, 27, 28, 31, 32, 33, 34, 35, 36, 37, 38, 39, 40, 41, 42, 43] (.loop b37_18)))) (.clear [0, 1, 2, 3, 4, 5, 7, 8, 9, 10, 11, 12, 13, 14, 15, 16, 17, 18, 19, 20, 21, 22, 23, 24, 25, 26, 27, 28, 29, 30, 31, 32, 33, 34, 35, 36, 37, 38, 39, 40, 41, 42, 43] c37_31)))))⟩ [.agg #[.int .i64 x0_0, .int .i64 x0_1], .pointer x1] M =
  (Option.bind (intOf? .i64 (AMem.ld (M ++ [AObj.cells [.int .i64 x0_0, .int .i64 x0_1] ⟨false, 0⟩]) (List.length M) 0)) fun x_1 =>
    (Option.bind (intOf? .i64 (AMem.ld (M ++ [AObj.cells [.int .i64 x0_0, .int .i64 x0_1] ⟨false, 0⟩]) (List.length M) 1)) fun x_2 =>
    (Option.bind (L.call 15 [.agg #[.int .i64 x_1, .int .i64 x_2]] []) fun r_3 =>
    (Option.bind (boolOf? (some r_3.1)) fun q_4 =>
    (if (!q_4) = true
    then (if chkOk [(6, 5)] [(6, (List.length M))] [(5, ((M ++ [AObj.cells [.int .i64 x0_0, .int .i64 x0_1] ⟨false, 0⟩]), (M ++ [AObj.cells [.int .i64 x0_0, .int .i64 x0_1] ⟨false, 0⟩])))] = true
      then some (.slice none 0 0, (M ++ [AObj.cells [.int .i64 x0_0, .int .i64 x0_1] ⟨false, 0⟩]))
      else none)
    else (Option.bind (L.call 32 [.pointer x1] (M ++ [AObj.cells [.int .i64 x0_0, .int .i64 x0_1] ⟨false, 0⟩])) fun r_5 =>
      (Option.bind (intOf? .i64 (some r_5.1)) fun x_6 =>
      (Option.bind (intOf? .i64 (AMem.ld r_5.2 (List.length M) 0)) fun x_7 =>
      (Option.bind (intOf? .i64 (AMem.ld r_5.2 (List.length M) 1)) fun x_8 =>
      (Option.bind (L.call 16 [.agg #[.int .i64 x_7, .int .i64 x_8]] []) fun r_9 =>
      (Option.bind (intOf? .i64 (some r_9.1)) fun x_10 =>
      (if chkOk [(6, 5)] [(6, (List.length M))] [(5, ((M ++ [AObj.cells [.int .i64 x0_0, .int .i64 x0_1] ⟨false, 0⟩]), r_5.2))] = true
      then (if (x_6 != x_10) = true
        then some (.slice none 0 0, r_5.2)
        else (Option.bind (intOf? .i64 (AMem.ld r_5.2 (List.length M) 0)) fun x_11 =>
          (Option.bind (intOf? .i64 (AMem.ld r_5.2 (List.length M) 1)) fun x_12 =>
          (Option.bind (L.call 49 [.agg #[.int .i64 x_11, .int .i64 x_12], .int .i64 4] []) fun r_13 =>
          (Option.bind (intOf? .i64 (some r_13.1)) fun x_14 =>
          (Option.bind (intOf? .i64 (AMem.ld r_5.2 (List.length M) 0)) fun x_15 =>
          (Option.bind (L.call 33 [.pointer x1, .int .i64 x_14, .int .i64 (IntKind.wrap .i64 (3 * x_15))] r_5.2) fun r_16 =>
          (Option.bind (sliceOf? (some r_16.1)) fun s_17 =>
          (Option.bind (intOf? .i64 (AMem.ld r_16.2 (List.length M) 0)) fun x_18 =>
          (if 0 ≤ x_18 ∧ x_18 ≤ x_18 ∧ x_18 ≤ 140737488355328 ∧ x_18 * 24 ≤ 140737488355328
          then L.loop b37_18 (blockK 0 (seqK (code L (.clear [0, 1, 2, 3, 4, 5, 7, 8, 9, 10, 11, 12, 13, 14, 15, 16, 17, 18, 19, 20, 21, 22, 23, 24, 25, 26, 27, 28, 29, 30, 31, 32, 33, 34, 35, 36, 37, 38, 39, 40, 41, 42, 43] c37_31) (retK [.tmp 4])) (retK [.tmp 4]))) [junk, junk, junk, junk, junk, .slice s_17.1 s_17.2.1 s_17.2.2, .slice (some ⟨(List.length r_16.2), 0, none⟩) (Int.toNat x_18) 3, junk, junk, junk, junk, junk, junk, junk, junk, junk, junk, junk, junk, junk, junk, junk, junk, junk, junk, junk, junk, junk, junk, .int .i64 (Int.ofNat (Int.toNat x_18)), .int .i64 0, junk, junk, junk, junk, junk, junk, junk, junk, junk, junk, junk, junk, junk] (r_16.2 ++ [AObj.cells ((List.replicate (Int.toNat x_18) [.int .u64 0, .int .u64 0, .int .u64 0]).flatten) ⟨false, 0⟩])
          else none))))))))))
      else none)))))))))))) := by kernel_rfl
theorem QE37 (L : Rec) (P37_18 : Rec → (Option Addr) → Nat → Nat → Nat → Nat → Int → Int → AMem → Res) (hP37_18 : P37_18 = fun (L : Rec) (x5 : Option Addr) (x5n : Nat) (x5c : Nat) (x6 : Nat) (x6n : Nat) (x29 : Int) (x30 : Int) (M : AMem) => L.loop b37_18 (k37_18 L) (s37_18 x5 x5n x5c x6 x6n x29 x30 M) M) (x0_0 : Int) (x0_1 : Int) (x1 : Option Addr) (M : AMem) : enterF L a37 [.agg #[.int .i64 x0_0, .int .i64 x0_1], .pointer x1] M =
  (Option.bind (intOf? .i64 (AMem.ld (M ++ [AObj.cells [.int .i64 x0_0, .int .i64 x0_1] ⟨false, 0⟩]) (List.length M) 0)) fun x_1 =>
    (Option.bind (intOf? .i64 (AMem.ld (M ++ [AObj.cells [.int .i64 x0_0, .int .i64 x0_1] ⟨false, 0⟩]) (List.length M) 1)) fun x_2 =>
    (Option.bind (L.call 15 [.agg #[.int .i64 x_1, .int .i64 x_2]] []) fun r_3 =>
    (Option.bind (boolOf? (some r_3.1)) fun q_4 =>
    (if (!q_4) = true
    then (if chkOk [(6, 5)] [(6, (List.length M))] [(5, ((M ++ [AObj.cells [.int .i64 x0_0, .int .i64 x0_1] ⟨false, 0⟩]), (M ++ [AObj.cells [.int .i64 x0_0, .int .i64 x0_1] ⟨false, 0⟩])))] = true
      then some (.slice none 0 0, (M ++ [AObj.cells [.int .i64 x0_0, .int .i64 x0_1] ⟨false, 0⟩]))
      else none)
    else (Option.bind (L.call 32 [.pointer x1] (M ++ [AObj.cells [.int .i64 x0_0, .int .i64 x0_1] ⟨false, 0⟩])) fun r_5 =>
      (Option.bind (intOf? .i64 (some r_5.1)) fun x_6 =>
      (Option.bind (intOf? .i64 (AMem.ld r_5.2 (List.length M) 0)) fun x_7 =>
      (Option.bind (intOf? .i64 (AMem.ld r_5.2 (List.length M) 1)) fun x_8 =>
      (Option.bind (L.call 16 [.agg #[.int .i64 x_7, .int .i64 x_8]] []) fun r_9 =>
      (Option.bind (intOf? .i64 (some r_9.1)) fun x_10 =>
      (if chkOk [(6, 5)] [(6, (List.length M))] [(5, ((M ++ [AObj.cells [.int .i64 x0_0, .int .i64 x0_1] ⟨false, 0⟩]), r_5.2))] = true
      then (if (x_6 != x_10) = true
        then some (.slice none 0 0, r_5.2)
        else (Option.bind (intOf? .i64 (AMem.ld r_5.2 (List.length M) 0)) fun x_11 =>
          (Option.bind (intOf? .i64 (AMem.ld r_5.2 (List.length M) 1)) fun x_12 =>
          (Option.bind (L.call 49 [.agg #[.int .i64 x_11, .int .i64 x_12], .int .i64 4] []) fun r_13 =>
          (Option.bind (intOf? .i64 (some r_13.1)) fun x_14 =>
          (Option.bind (intOf? .i64 (AMem.ld r_5.2 (List.length M) 0)) fun x_15 =>
          (Option.bind (L.call 33 [.pointer x1, .int .i64 x_14, .int .i64 (IntKind.wrap .i64 (3 * x_15))] r_5.2) fun r_16 =>
          (Option.bind (sliceOf? (some r_16.1)) fun s_17 =>
          (Option.bind (intOf? .i64 (AMem.ld r_16.2 (List.length M) 0)) fun x_18 =>
          (if 0 ≤ x_18 ∧ x_18 ≤ x_18 ∧ x_18 ≤ 140737488355328 ∧ x_18 * 24 ≤ 140737488355328
          then P37_18 L s_17.1 s_17.2.1 s_17.2.2 (List.length r_16.2) (Int.toNat x_18) (Int.ofNat (Int.toNat x_18)) 0 (r_16.2 ++ [AObj.cells ((List.replicate (Int.toNat x_18) [.int .u64 0, .int .u64 0, .int .u64 0]).flatten) ⟨false, 0⟩])
          else none))))))))))
      else none)))))))))))) := by
  subst hP37_18; exact Eq.mp (by kernel_rfl) (GE37 L b37_18 c37_31 x0_0 x0_1 x1 M)
theorem E37 (L : Rec) (x0_0 : Int) (x0_1 : Int) (x1 : Option Addr) (M : AMem) : enterF L a37 [.agg #[.int .i64 x0_0, .int .i64 x0_1], .pointer x1] M =
  (Option.bind (intOf? .i64 (AMem.ld (M ++ [AObj.cells [.int .i64 x0_0, .int .i64 x0_1] ⟨false, 0⟩]) (List.length M) 0)) fun x_1 =>
    (Option.bind (intOf? .i64 (AMem.ld (M ++ [AObj.cells [.int .i64 x0_0, .int .i64 x0_1] ⟨false, 0⟩]) (List.length M) 1)) fun x_2 =>
    (Option.bind (L.call 15 [.agg #[.int .i64 x_1, .int .i64 x_2]] []) fun r_3 =>
    (Option.bind (boolOf? (some r_3.1)) fun q_4 =>
    (if (!q_4) = true
    then (if chkOk [(6, 5)] [(6, (List.length M))] [(5, ((M ++ [AObj.cells [.int .i64 x0_0, .int .i64 x0_1] ⟨false, 0⟩]), (M ++ [AObj.cells [.int .i64 x0_0, .int .i64 x0_1] ⟨false, 0⟩])))] = true
      then some (.slice none 0 0, (M ++ [AObj.cells [.int .i64 x0_0, .int .i64 x0_1] ⟨false, 0⟩]))
      else none)
    else (Option.bind (L.call 32 [.pointer x1] (M ++ [AObj.cells [.int .i64 x0_0, .int .i64 x0_1] ⟨false, 0⟩])) fun r_5 =>
      (Option.bind (intOf? .i64 (some r_5.1)) fun x_6 =>
      (Option.bind (intOf? .i64 (AMem.ld r_5.2 (List.length M) 0)) fun x_7 =>
      (Option.bind (intOf? .i64 (AMem.ld r_5.2 (List.length M) 1)) fun x_8 =>
      (Option.bind (L.call 16 [.agg #[.int .i64 x_7, .int .i64 x_8]] []) fun r_9 =>
      (Option.bind (intOf? .i64 (some r_9.1)) fun x_10 =>
      (if chkOk [(6, 5)] [(6, (List.length M))] [(5, ((M ++ [AObj.cells [.int .i64 x0_0, .int .i64 x0_1] ⟨false, 0⟩]), r_5.2))] = true
      then (if (x_6 != x_10) = true
        then some (.slice none 0 0, r_5.2)
        else (Option.bind (intOf? .i64 (AMem.ld r_5.2 (List.length M) 0)) fun x_11 =>
          (Option.bind (intOf? .i64 (AMem.ld r_5.2 (List.length M) 1)) fun x_12 =>
          (Option.bind (L.call 49 [.agg #[.int .i64 x_11, .int .i64 x_12], .int .i64 4] []) fun r_13 =>
          (Option.bind (intOf? .i64 (some r_13.1)) fun x_14 =>
          (Option.bind (intOf? .i64 (AMem.ld r_5.2 (List.length M) 0)) fun x_15 =>
          (Option.bind (L.call 33 [.pointer x1, .int .i64 x_14, .int .i64 (IntKind.wrap .i64 (3 * x_15))] r_5.2) fun r_16 =>
          (Option.bind (sliceOf? (some r_16.1)) fun s_17 =>
          (Option.bind (intOf? .i64 (AMem.ld r_16.2 (List.length M) 0)) fun x_18 =>
          (if 0 ≤ x_18 ∧ x_18 ≤ x_18 ∧ x_18 ≤ 140737488355328 ∧ x_18 * 24 ≤ 140737488355328
          then P37_18 L s_17.1 s_17.2.1 s_17.2.2 (List.length r_16.2) (Int.toNat x_18) (Int.ofNat (Int.toNat x_18)) 0 (r_16.2 ++ [AObj.cells ((List.replicate (Int.toNat x_18) [.int .u64 0, .int .u64 0, .int .u64 0]).flatten) ⟨false, 0⟩])
          else none))))))))))
      else none)))))))))))) := QE37 L P37_18 (Classical.choose_spec XP37_18) x0_0 x0_1 x1 M
/-! #### skylightref31.Size -/
theorem GE36 (L : Rec) (x0_0 : Int) (x0_1 : Int) : enterF L ⟨14, [.tmp 2], .seq (.ops o36_1) (.seq (.seq (.ops o36_4) (.cond (.tmp 5) (.seq (.ops o36_7) (.ret)) (.skip))) (.seq (.ops o36_11) (.ret)))⟩ [.agg #[.int .i64 x0_0, .int .i64 x0_1]] [] =
  (Option.bind (L.call 12 [.agg #[.int .i64 x0_0, .int .i64 x0_1]] []) fun r_1 =>
    (Option.bind (boolOf? (some r_1.1)) fun q_2 =>
    (if (!q_2) = true
    then some (.int .i64 0, ([AObj.cells [.int .i64 x0_0, .int .i64 x0_1] ⟨false, 0⟩] : AMem))
    else some (.int .i64 (IntKind.wrap .i64 ((IntKind.wrap .i64 (1 + (IntKind.wrap .i64 (2 * x0_1)))) + (IntKind.wrap .i64 (3 * x0_0)))), ([AObj.cells [.int .i64 x0_0, .int .i64 x0_1] ⟨false, 0⟩] : AMem))))) := by kernel_rfl
theorem E36 (L : Rec) (x0_0 : Int) (x0_1 : Int) : enterF L a36 [.agg #[.int .i64 x0_0, .int .i64 x0_1]] [] =
  (Option.bind (L.call 12 [.agg #[.int .i64 x0_0, .int .i64 x0_1]] []) fun r_1 =>
    (Option.bind (boolOf? (some r_1.1)) fun q_2 =>
    (if (!q_2) = true
    then some (.int .i64 0, ([AObj.cells [.int .i64 x0_0, .int .i64 x0_1] ⟨false, 0⟩] : AMem))
    else some (.int .i64 (IntKind.wrap .i64 ((IntKind.wrap .i64 (1 + (IntKind.wrap .i64 (2 * x0_1)))) + (IntKind.wrap .i64 (3 * x0_0)))), ([AObj.cells [.int .i64 x0_0, .int .i64 x0_1] ⟨false, 0⟩] : AMem))))) := Eq.mp (by kernel_rfl) (GE36 L  x0_0 x0_1)
/-! #### skylightref31.Film -/
noncomputable def k38_8 (L : Rec) : KT := blockK 0 (seqK (code L (.clear [0, 1, 2, 3, 4, 6, 7, 8, 9, 10, 11, 12, 13, 14, 15, 16, 17, 18, 19, 20, 21, 22, 23, 24, 25, 26, 27, 28, 29, 30, 31, 32, 33, 34, 35, 36, 37, 38, 39, 40, 41, 42, 43, 44, 45, 46, 47, 48, 49, 50, 51, 52, 53, 54, 55, 56, 57, 58, 59] c38_21) (retK [.tmp 4])) (retK [.tmp 4]))
def s38_8 (x1 : Option Addr) (x2 : Nat) (x5 : Option Addr) (x5n : Nat) (x5c : Nat) (x6 : Int) (M : AMem) : List Value := [junk, .pointer x1, .pointer (some ⟨x2, 0, none⟩), junk, junk, .slice x5 x5n x5c, .int .i64 x6, junk, junk, junk, junk, junk, junk, junk, junk, junk, junk, junk, junk, junk, junk, junk, junk, junk, junk, junk, junk, junk, junk, junk, junk, junk, junk, junk, junk, junk, junk, junk, junk, junk, junk, junk, junk, junk, junk, junk, junk, junk, junk, junk, junk, junk, junk, junk, junk, junk, junk, junk, junk, junk]
theorem XP38_8 : ∃ P : Rec → (Option Addr) → Nat → (Option Addr) → Nat → Nat → Int → AMem → Res, P = fun (L : Rec) (x1 : Option Addr) (x2 : Nat) (x5 : Option Addr) (x5n : Nat) (x5c : Nat) (x6 : Int) (M : AMem) => L.loop b38_8 (k38_8 L) (s38_8 x1 x2 x5 x5n x5c x6 M) M := ⟨_, rfl⟩
noncomputable def P38_8 : Rec → (Option Addr) → Nat → (Option Addr) → Nat → Nat → Int → AMem → Res := Classical.choose XP38_8
noncomputable def k38_20 (L : Rec) : KT := postK [0, 3, 4, 7, 8, 9, 10, 11, 12, 13, 14, 15, 16, 17, 18, 19, 20, 21, 22, 23, 24, 25, 26, 27, 28, 29, 30, 31, 32, 33, 34, 35, 36, 37, 38, 39, 40, 41, 42, 43, 44, 45, 46, 47, 48, 49, 50, 51, 52, 53, 54, 55, 56, 57, 58, 59] (loopK L b38_8 (blockK 0 (seqK (code L (.clear [0, 1, 2, 3, 4, 6, 7, 8, 9, 10, 11, 12, 13, 14, 15, 16, 17, 18, 19, 20, 21, 22, 23, 24, 25, 26, 27, 28, 29, 30, 31, 32, 33, 34, 35, 36, 37, 38, 39, 40, 41, 42, 43, 44, 45, 46, 47, 48, 49, 50, 51, 52, 53, 54, 55, 56, 57, 58, 59] c38_21) (retK [.tmp 4])) (retK [.tmp 4]))))
def s38_20 (x1 : Option Addr) (x2 : Nat) (x5 : Option Addr) (x5n : Nat) (x5c : Nat) (x6 : Int) (M : AMem) : List Value := [junk, .pointer x1, .pointer (some ⟨x2, 0, none⟩), junk, junk, .slice x5 x5n x5c, .int .i64 x6, junk, junk, junk, junk, junk, junk, junk, junk, junk, junk, junk, junk, junk, junk, junk, junk, junk, junk, junk, junk, junk, junk, junk, junk, junk, junk, junk, junk, junk, junk, junk, junk, junk, junk, junk, junk, junk, junk, junk, junk, junk, junk, junk, junk, junk, junk, junk, junk, junk, junk, junk, junk, junk]
theorem XP38_20 : ∃ P : Rec → (Option Addr) → Nat → (Option Addr) → Nat → Nat → Int → AMem → Res, P = fun (L : Rec) (x1 : Option Addr) (x2 : Nat) (x5 : Option Addr) (x5n : Nat) (x5c : Nat) (x6 : Int) (M : AMem) => code L c38_20 (k38_20 L) (s38_20 x1 x2 x5 x5n x5c x6 M) M := ⟨_, rfl⟩
noncomputable def P38_20 : Rec → (Option Addr) → Nat → (Option Addr) → Nat → Nat → Int → AMem → Res := Classical.choose XP38_20
noncomputable def k38_21 (L : Rec) : KT := retK [.tmp 4]
def s38_21 (x5 : Option Addr) (x5n : Nat) (x5c : Nat) (M : AMem) : List Value := [junk, junk, junk, junk, junk, .slice x5 x5n x5c, junk, junk, junk, junk, junk, junk, junk, junk, junk, junk, junk, junk, junk, junk, junk, junk, junk, junk, junk, junk, junk, junk, junk, junk, junk, junk, junk, junk, junk, junk, junk, junk, junk, junk, junk, junk, junk, junk, junk, junk, junk, junk, junk, junk, junk, junk, junk, junk, junk, junk, junk, junk, junk, junk]
theorem XP38_21 : ∃ P : Rec → (Option Addr) → Nat → Nat → AMem → Res, P = fun (L : Rec) (x5 : Option Addr) (x5n : Nat) (x5c : Nat) (M : AMem) => code L c38_21 (k38_21 L) (s38_21 x5 x5n x5c M) M := ⟨_, rfl⟩
noncomputable def P38_21 : Rec → (Option Addr) → Nat → Nat → AMem → Res := Classical.choose XP38_21
theorem G38_8 (L : Rec) (b38_8 c38_20 c38_21 : ACode) (x1 : Option Addr) (x2 : Nat) (x5 : Option Addr) (x5n : Nat) (x5c : Nat) (x6 : Int) (M : AMem) : code L (.post (.seq (.seq (.draw [] 0 o38_11 []) (.cond (.tmp 25) (.skip) (.exit 0))) (.seq (.block 1 (.seq (.ops o38_18) (.draw [] 0 o38_19 []))) (.clear [0, 3, 4, 7, 8, 9, 10, 11, 12, 13, 14, 15, 16, 17, 18, 19, 20, 21, 22, 23, 24, 25, 26, 27, 28, 29, 30, 31, 32, 33, 34, 35, 36, 37, 38, 39, 40, 41, 42, 43, 44, 45, 46, 47, 48, 49, 50, 51, 52, 53, 54, 55, 56, 57, 58, 59] c38_20))) [0, 3, 4, 7, 8, 9, 10, 11, 12, 13, 14, 15, 16, 17, 18, 19, 20, 21, 22, 23, 24, 25, 26, 27, 28, 29, 30, 31, 32, 33, 34, 35, 36, 37, 38, 39, 40, 41, 42, 43, 44, 45, 46, 47, 48, 49, 50, 51, 52, 53, 54, 55, 56, 57, 58, 59]) (loopK L b38_8 (blockK 0 (seqK (code L (.clear [0, 1, 2, 3, 4, 6, 7, 8, 9, 10, 11, 12, 13, 14, 15, 16, 17, 18, 19, 20, 21, 22, 23, 24, 25, 26, 27, 28, 29, 30, 31, 32, 33, 34, 35, 36, 37, 38, 39, 40, 41, 42, 43, 44, 45, 46, 47, 48, 49, 50, 51, 52, 53, 54, 55, 56, 57, 58, 59] c38_21) (retK [.tmp 4])) (retK [.tmp 4])))) [junk, .pointer x1, .pointer (some ⟨x2, 0, none⟩), junk, junk, .slice x5 x5n x5c, .int .i64 x6, junk, junk, junk, junk, junk, junk, junk, junk, junk, junk, junk, junk, junk, junk, junk, junk, junk, junk, junk, junk, junk, junk, junk, junk, junk, junk, junk, junk, junk, junk, junk, junk, junk, junk, junk, junk, junk, junk, junk, junk, junk, junk, junk, junk, junk, junk, junk, junk, junk, junk, junk, junk, junk] M =
  (Option.bind (intOf? .i64 (AMem.ld M x2 0)) fun x_1 =>
    (if (decide (x6 < x_1)) = true
    then (Option.bind (intOf? .i64 (AMem.ld M x2 0)) fun x_2 =>
      (Option.bind (intOf? .i64 (AMem.ld M x2 1)) fun x_3 =>
      (Option.bind (L.call 12 [.agg #[.int .i64 x_2, .int .i64 x_3]] []) fun r_4 =>
      (Option.bind (boolOf? (some r_4.1)) fun q_5 =>
      (if q_5 = true
      then (match x1 with
        | some a_6 => (Option.bind (sliceOf? (AMem.ld M a_6.block a_6.off)) fun s_7 =>
          (Option.bind (intOf? .i64 (AMem.ld M x2 0)) fun x_8 =>
          (Option.bind (intOf? .i64 (AMem.ld M x2 1)) fun x_9 =>
          (Option.bind (L.call 36 [.agg #[.int .i64 x_8, .int .i64 x_9]] []) fun r_10 =>
          (Option.bind (intOf? .i64 (some r_10.1)) fun x_11 =>
          (if ((Int.ofNat s_7.2.1) == x_11) = true
          then (Option.bind (intOf? .i64 (AMem.ld M x2 0)) fun x_12 =>
            (Option.bind (intOf? .i64 (AMem.ld M x2 1)) fun x_13 =>
            (Option.bind (L.call 52 [.agg #[.int .i64 x_12, .int .i64 x_13], .agg #[.int .i64 4, .int .i64 x6, .int .i64 0]] []) fun r_14 =>
            (Option.bind (intOf? .i64 (some r_14.1)) fun x_15 =>
            (match x1 with
            | some a_16 => (Option.bind (sliceOf? (AMem.ld M a_16.block a_16.off)) fun s_17 =>
              (match s_17.1 with
              | some a_18 => (if 0 ≤ x_15 ∧ x_15 < (Int.ofNat s_17.2.1)
                then (Option.bind (intOf? .u64 (AMem.ld M a_18.block (a_18.off + ((Int.toNat x_15) * 1)))) fun x_19 =>
                  (match x1 with
                  | some a_20 => (Option.bind (sliceOf? (AMem.ld M a_20.block a_20.off)) fun s_21 =>
                    (match s_21.1 with
                    | some a_22 => (if 0 ≤ (IntKind.wrap .i64 (x_15 + 1)) ∧ (IntKind.wrap .i64 (x_15 + 1)) < (Int.ofNat s_21.2.1)
                      then (Option.bind (intOf? .u64 (AMem.ld M a_22.block (a_22.off + ((Int.toNat (IntKind.wrap .i64 (x_15 + 1))) * 1)))) fun x_23 =>
                        (match x1 with
                        | some a_24 => (Option.bind (sliceOf? (AMem.ld M a_24.block a_24.off)) fun s_25 =>
                          (match s_25.1 with
                          | some a_26 => (if 0 ≤ (IntKind.wrap .i64 (x_15 + 2)) ∧ (IntKind.wrap .i64 (x_15 + 2)) < (Int.ofNat s_25.2.1)
                            then (Option.bind (intOf? .u64 (AMem.ld M a_26.block (a_26.off + ((Int.toNat (IntKind.wrap .i64 (x_15 + 2))) * 1)))) fun x_27 =>
                              (Option.bind (rowOf (M ++ [AObj.cells [.int .u64 x_19, .int .u64 x_23, .int .u64 x_27] ⟨false, 0⟩]) 3 (.slice (some ⟨(List.length M), 0, none⟩) 1 3)) fun row_28 =>
                              (appendK 3 24 x5 x5n x5c 1 row_28 (M ++ [AObj.cells [.int .u64 x_19, .int .u64 x_23, .int .u64 x_27] ⟨false, 0⟩]) fun p_29 n_30 c_31 M_32 =>
                              code L c38_20 (postK [0, 3, 4, 7, 8, 9, 10, 11, 12, 13, 14, 15, 16, 17, 18, 19, 20, 21, 22, 23, 24, 25, 26, 27, 28, 29, 30, 31, 32, 33, 34, 35, 36, 37, 38, 39, 40, 41, 42, 43, 44, 45, 46, 47, 48, 49, 50, 51, 52, 53, 54, 55, 56, 57, 58, 59] (loopK L b38_8 (blockK 0 (seqK (code L (.clear [0, 1, 2, 3, 4, 6, 7, 8, 9, 10, 11, 12, 13, 14, 15, 16, 17, 18, 19, 20, 21, 22, 23, 24, 25, 26, 27, 28, 29, 30, 31, 32, 33, 34, 35, 36, 37, 38, 39, 40, 41, 42, 43, 44, 45, 46, 47, 48, 49, 50, 51, 52, 53, 54, 55, 56, 57, 58, 59] c38_21) (retK [.tmp 4])) (retK [.tmp 4]))))) [junk, .pointer x1, .pointer (some ⟨x2, 0, none⟩), junk, junk, .slice p_29 n_30 c_31, .int .i64 x6, junk, junk, junk, junk, junk, junk, junk, junk, junk, junk, junk, junk, junk, junk, junk, junk, junk, junk, junk, junk, junk, junk, junk, junk, junk, junk, junk, junk, junk, junk, junk, junk, junk, junk, junk, junk, junk, junk, junk, junk, junk, junk, junk, junk, junk, junk, junk, junk, junk, junk, junk, junk, junk] M_32)))
                            else none)
                          | none => none))
                        | none => none))
                      else none)
                    | none => none))
                  | none => none))
                else none)
              | none => none))
            | none => none)))))
          else code L c38_21 (retK [.tmp 4]) [junk, junk, junk, junk, junk, .slice x5 x5n x5c, junk, junk, junk, junk, junk, junk, junk, junk, junk, junk, junk, junk, junk, junk, junk, junk, junk, junk, junk, junk, junk, junk, junk, junk, junk, junk, junk, junk, junk, junk, junk, junk, junk, junk, junk, junk, junk, junk, junk, junk, junk, junk, junk, junk, junk, junk, junk, junk, junk, junk, junk, junk, junk, junk] M))))))
        | none => none)
      else code L c38_21 (retK [.tmp 4]) [junk, junk, junk, junk, junk, .slice x5 x5n x5c, junk, junk, junk, junk, junk, junk, junk, junk, junk, junk, junk, junk, junk, junk, junk, junk, junk, junk, junk, junk, junk, junk, junk, junk, junk, junk, junk, junk, junk, junk, junk, junk, junk, junk, junk, junk, junk, junk, junk, junk, junk, junk, junk, junk, junk, junk, junk, junk, junk, junk, junk, junk, junk, junk] M)))))
    else code L c38_21 (retK [.tmp 4]) [junk, junk, junk, junk, junk, .slice x5 x5n x5c, junk, junk, junk, junk, junk, junk, junk, junk, junk, junk, junk, junk, junk, junk, junk, junk, junk, junk, junk, junk, junk, junk, junk, junk, junk, junk, junk, junk, junk, junk, junk, junk, junk, junk, junk, junk, junk, junk, junk, junk, junk, junk, junk, junk, junk, junk, junk, junk, junk, junk, junk, junk, junk, junk] M)) := by kernel_rfl
theorem QP38_8_eq (L : Rec) (hL : ∀ b K t A, L.loop b K t A = code L b (loopK L b K) t A) (P38_8 : Rec → (Option Addr) → Nat → (Option Addr) → Nat → Nat → Int → AMem → Res) (hP38_8 : P38_8 = fun (L : Rec) (x1 : Option Addr) (x2 : Nat) (x5 : Option Addr) (x5n : Nat) (x5c : Nat) (x6 : Int) (M : AMem) => L.loop b38_8 (k38_8 L) (s38_8 x1 x2 x5 x5n x5c x6 M) M) (P38_20 : Rec → (Option Addr) → Nat → (Option Addr) → Nat → Nat → Int → AMem → Res) (hP38_20 : P38_20 = fun (L : Rec) (x1 : Option Addr) (x2 : Nat) (x5 : Option Addr) (x5n : Nat) (x5c : Nat) (x6 : Int) (M : AMem) => code L c38_20 (k38_20 L) (s38_20 x1 x2 x5 x5n x5c x6 M) M) (P38_21 : Rec → (Option Addr) → Nat → Nat → AMem → Res) (hP38_21 : P38_21 = fun (L : Rec) (x5 : Option Addr) (x5n : Nat) (x5c : Nat) (M : AMem) => code L c38_21 (k38_21 L) (s38_21 x5 x5n x5c M) M) (x1 : Option Addr) (x2 : Nat) (x5 : Option Addr) (x5n : Nat) (x5c : Nat) (x6 : Int) (M : AMem) : P38_8 L x1 x2 x5 x5n x5c x6 M =
  (Option.bind (intOf? .i64 (AMem.ld M x2 0)) fun x_1 =>
    (if (decide (x6 < x_1)) = true
    then (Option.bind (intOf? .i64 (AMem.ld M x2 0)) fun x_2 =>
      (Option.bind (intOf? .i64 (AMem.ld M x2 1)) fun x_3 =>
      (Option.bind (L.call 12 [.agg #[.int .i64 x_2, .int .i64 x_3]] []) fun r_4 =>
      (Option.bind (boolOf? (some r_4.1)) fun q_5 =>
      (if q_5 = true
      then (match x1 with
        | some a_6 => (Option.bind (sliceOf? (AMem.ld M a_6.block a_6.off)) fun s_7 =>
          (Option.bind (intOf? .i64 (AMem.ld M x2 0)) fun x_8 =>
          (Option.bind (intOf? .i64 (AMem.ld M x2 1)) fun x_9 =>
          (Option.bind (L.call 36 [.agg #[.int .i64 x_8, .int .i64 x_9]] []) fun r_10 =>
          (Option.bind (intOf? .i64 (some r_10.1)) fun x_11 =>
          (if ((Int.ofNat s_7.2.1) == x_11) = true
          then (Option.bind (intOf? .i64 (AMem.ld M x2 0)) fun x_12 =>
            (Option.bind (intOf? .i64 (AMem.ld M x2 1)) fun x_13 =>
            (Option.bind (L.call 52 [.agg #[.int .i64 x_12, .int .i64 x_13], .agg #[.int .i64 4, .int .i64 x6, .int .i64 0]] []) fun r_14 =>
            (Option.bind (intOf? .i64 (some r_14.1)) fun x_15 =>
            (match x1 with
            | some a_16 => (Option.bind (sliceOf? (AMem.ld M a_16.block a_16.off)) fun s_17 =>
              (match s_17.1 with
              | some a_18 => (if 0 ≤ x_15 ∧ x_15 < (Int.ofNat s_17.2.1)
                then (Option.bind (intOf? .u64 (AMem.ld M a_18.block (a_18.off + ((Int.toNat x_15) * 1)))) fun x_19 =>
                  (match x1 with
                  | some a_20 => (Option.bind (sliceOf? (AMem.ld M a_20.block a_20.off)) fun s_21 =>
                    (match s_21.1 with
                    | some a_22 => (if 0 ≤ (IntKind.wrap .i64 (x_15 + 1)) ∧ (IntKind.wrap .i64 (x_15 + 1)) < (Int.ofNat s_21.2.1)
                      then (Option.bind (intOf? .u64 (AMem.ld M a_22.block (a_22.off + ((Int.toNat (IntKind.wrap .i64 (x_15 + 1))) * 1)))) fun x_23 =>
                        (match x1 with
                        | some a_24 => (Option.bind (sliceOf? (AMem.ld M a_24.block a_24.off)) fun s_25 =>
                          (match s_25.1 with
                          | some a_26 => (if 0 ≤ (IntKind.wrap .i64 (x_15 + 2)) ∧ (IntKind.wrap .i64 (x_15 + 2)) < (Int.ofNat s_25.2.1)
                            then (Option.bind (intOf? .u64 (AMem.ld M a_26.block (a_26.off + ((Int.toNat (IntKind.wrap .i64 (x_15 + 2))) * 1)))) fun x_27 =>
                              (Option.bind (rowOf (M ++ [AObj.cells [.int .u64 x_19, .int .u64 x_23, .int .u64 x_27] ⟨false, 0⟩]) 3 (.slice (some ⟨(List.length M), 0, none⟩) 1 3)) fun row_28 =>
                              (appendK 3 24 x5 x5n x5c 1 row_28 (M ++ [AObj.cells [.int .u64 x_19, .int .u64 x_23, .int .u64 x_27] ⟨false, 0⟩]) fun p_29 n_30 c_31 M_32 =>
                              P38_20 L x1 x2 p_29 n_30 c_31 x6 M_32)))
                            else none)
                          | none => none))
                        | none => none))
                      else none)
                    | none => none))
                  | none => none))
                else none)
              | none => none))
            | none => none)))))
          else P38_21 L x5 x5n x5c M))))))
        | none => none)
      else P38_21 L x5 x5n x5c M)))))
    else P38_21 L x5 x5n x5c M)) := by
  subst hP38_8; subst hP38_20; subst hP38_21; exact Eq.trans (b := code L b38_8 (loopK L b38_8 (k38_8 L)) (s38_8 x1 x2 x5 x5n x5c x6 M) M) (hL b38_8 (k38_8 L) (s38_8 x1 x2 x5 x5n x5c x6 M) M) (Eq.mp (by kernel_rfl) (G38_8 L b38_8 c38_20 c38_21 x1 x2 x5 x5n x5c x6 M))
theorem P38_8_eq (L : Rec) (hL : ∀ b K t A, L.loop b K t A = code L b (loopK L b K) t A) (x1 : Option Addr) (x2 : Nat) (x5 : Option Addr) (x5n : Nat) (x5c : Nat) (x6 : Int) (M : AMem) : P38_8 L x1 x2 x5 x5n x5c x6 M =
  (Option.bind (intOf? .i64 (AMem.ld M x2 0)) fun x_1 =>
    (if (decide (x6 < x_1)) = true
    then (Option.bind (intOf? .i64 (AMem.ld M x2 0)) fun x_2 =>
      (Option.bind (intOf? .i64 (AMem.ld M x2 1)) fun x_3 =>
      (Option.bind (L.call 12 [.agg #[.int .i64 x_2, .int .i64 x_3]] []) fun r_4 =>
      (Option.bind (boolOf? (some r_4.1)) fun q_5 =>
      (if q_5 = true
      then (match x1 with
        | some a_6 => (Option.bind (sliceOf? (AMem.ld M a_6.block a_6.off)) fun s_7 =>
          (Option.bind (intOf? .i64 (AMem.ld M x2 0)) fun x_8 =>
          (Option.bind (intOf? .i64 (AMem.ld M x2 1)) fun x_9 =>
          (Option.bind (L.call 36 [.agg #[.int .i64 x_8, .int .i64 x_9]] []) fun r_10 =>
          (Option.bind (intOf? .i64 (some r_10.1)) fun x_11 =>
          (if ((Int.ofNat s_7.2.1) == x_11) = true
          then (Option.bind (intOf? .i64 (AMem.ld M x2 0)) fun x_12 =>
            (Option.bind (intOf? .i64 (AMem.ld M x2 1)) fun x_13 =>
            (Option.bind (L.call 52 [.agg #[.int .i64 x_12, .int .i64 x_13], .agg #[.int .i64 4, .int .i64 x6, .int .i64 0]] []) fun r_14 =>
            (Option.bind (intOf? .i64 (some r_14.1)) fun x_15 =>
            (match x1 with
            | some a_16 => (Option.bind (sliceOf? (AMem.ld M a_16.block a_16.off)) fun s_17 =>
              (match s_17.1 with
              | some a_18 => (if 0 ≤ x_15 ∧ x_15 < (Int.ofNat s_17.2.1)
                then (Option.bind (intOf? .u64 (AMem.ld M a_18.block (a_18.off + ((Int.toNat x_15) * 1)))) fun x_19 =>
                  (match x1 with
                  | some a_20 => (Option.bind (sliceOf? (AMem.ld M a_20.block a_20.off)) fun s_21 =>
                    (match s_21.1 with
                    | some a_22 => (if 0 ≤ (IntKind.wrap .i64 (x_15 + 1)) ∧ (IntKind.wrap .i64 (x_15 + 1)) < (Int.ofNat s_21.2.1)
                      then (Option.bind (intOf? .u64 (AMem.ld M a_22.block (a_22.off + ((Int.toNat (IntKind.wrap .i64 (x_15 + 1))) * 1)))) fun x_23 =>
                        (match x1 with
                        | some a_24 => (Option.bind (sliceOf? (AMem.ld M a_24.block a_24.off)) fun s_25 =>
                          (match s_25.1 with
                          | some a_26 => (if 0 ≤ (IntKind.wrap .i64 (x_15 + 2)) ∧ (IntKind.wrap .i64 (x_15 + 2)) < (Int.ofNat s_25.2.1)
                            then (Option.bind (intOf? .u64 (AMem.ld M a_26.block (a_26.off + ((Int.toNat (IntKind.wrap .i64 (x_15 + 2))) * 1)))) fun x_27 =>
                              (Option.bind (rowOf (M ++ [AObj.cells [.int .u64 x_19, .int .u64 x_23, .int .u64 x_27] ⟨false, 0⟩]) 3 (.slice (some ⟨(List.length M), 0, none⟩) 1 3)) fun row_28 =>
                              (appendK 3 24 x5 x5n x5c 1 row_28 (M ++ [AObj.cells [.int .u64 x_19, .int .u64 x_23, .int .u64 x_27] ⟨false, 0⟩]) fun p_29 n_30 c_31 M_32 =>
                              P38_20 L x1 x2 p_29 n_30 c_31 x6 M_32)))
                            else none)
                          | none => none))
                        | none => none))
                      else none)
                    | none => none))
                  | none => none))
                else none)
              | none => none))
            | none => none)))))
          else P38_21 L x5 x5n x5c M))))))
        | none => none)
      else P38_21 L x5 x5n x5c M)))))
    else P38_21 L x5 x5n x5c M)) := QP38_8_eq L hL P38_8 (Classical.choose_spec XP38_8) P38_20 (Classical.choose_spec XP38_20) P38_21 (Classical.choose_spec XP38_21) x1 x2 x5 x5n x5c x6 M
theorem G38_20 (L : Rec) (b38_8 c38_21 : ACode) (x1 : Option Addr) (x2 : Nat) (x5 : Option Addr) (x5n : Nat) (x5c : Nat) (x6 : Int) (M : AMem) : code L (.ops o38_20) (postK [0, 3, 4, 7, 8, 9, 10, 11, 12, 13, 14, 15, 16, 17, 18, 19, 20, 21, 22, 23, 24, 25, 26, 27, 28, 29, 30, 31, 32, 33, 34, 35, 36, 37, 38, 39, 40, 41, 42, 43, 44, 45, 46, 47, 48, 49, 50, 51, 52, 53, 54, 55, 56, 57, 58, 59] (loopK L b38_8 (blockK 0 (seqK (code L (.clear [0, 1, 2, 3, 4, 6, 7, 8, 9, 10, 11, 12, 13, 14, 15, 16, 17, 18, 19, 20, 21, 22, 23, 24, 25, 26, 27, 28, 29, 30, 31, 32, 33, 34, 35, 36, 37, 38, 39, 40, 41, 42, 43, 44, 45, 46, 47, 48, 49, 50, 51, 52, 53, 54, 55, 56, 57, 58, 59] c38_21) (retK [.tmp 4])) (retK [.tmp 4]))))) [junk, .pointer x1, .pointer (some ⟨x2, 0, none⟩), junk, junk, .slice x5 x5n x5c, .int .i64 x6, junk, junk, junk, junk, junk, junk, junk, junk, junk, junk, junk, junk, junk, junk, junk, junk, junk, junk, junk, junk, junk, junk, junk, junk, junk, junk, junk, junk, junk, junk, junk, junk, junk, junk, junk, junk, junk, junk, junk, junk, junk, junk, junk, junk, junk, junk, junk, junk, junk, junk, junk, junk, junk] M =
  L.loop b38_8 (blockK 0 (seqK (code L (.clear [0, 1, 2, 3, 4, 6, 7, 8, 9, 10, 11, 12, 13, 14, 15, 16, 17, 18, 19, 20, 21, 22, 23, 24, 25, 26, 27, 28, 29, 30, 31, 32, 33, 34, 35, 36, 37, 38, 39, 40, 41, 42, 43, 44, 45, 46, 47, 48, 49, 50, 51, 52, 53, 54, 55, 56, 57, 58, 59] c38_21) (retK [.tmp 4])) (retK [.tmp 4]))) [junk, .pointer x1, .pointer (some ⟨x2, 0, none⟩), junk, junk, .slice x5 x5n x5c, .int .i64 (IntKind.wrap .i64 (x6 + 1)), junk, junk, junk, junk, junk, junk, junk, junk, junk, junk, junk, junk, junk, junk, junk, junk, junk, junk, junk, junk, junk, junk, junk, junk, junk, junk, junk, junk, junk, junk, junk, junk, junk, junk, junk, junk, junk, junk, junk, junk, junk, junk, junk, junk, junk, junk, junk, junk, junk, junk, junk, junk, junk] M := by kernel_rfl
theorem QP38_20_eq (L : Rec) (P38_8 : Rec → (Option Addr) → Nat → (Option Addr) → Nat → Nat → Int → AMem → Res) (hP38_8 : P38_8 = fun (L : Rec) (x1 : Option Addr) (x2 : Nat) (x5 : Option Addr) (x5n : Nat) (x5c : Nat) (x6 : Int) (M : AMem) => L.loop b38_8 (k38_8 L) (s38_8 x1 x2 x5 x5n x5c x6 M) M) (P38_20 : Rec → (Option Addr) → Nat → (Option Addr) → Nat → Nat → Int → AMem → Res) (hP38_20 : P38_20 = fun (L : Rec) (x1 : Option Addr) (x2 : Nat) (x5 : Option Addr) (x5n : Nat) (x5c : Nat) (x6 : Int) (M : AMem) => code L c38_20 (k38_20 L) (s38_20 x1 x2 x5 x5n x5c x6 M) M) (x1 : Option Addr) (x2 : Nat) (x5 : Option Addr) (x5n : Nat) (x5c : Nat) (x6 : Int) (M : AMem) : P38_20 L x1 x2 x5 x5n x5c x6 M =
  P38_8 L x1 x2 x5 x5n x5c (IntKind.wrap .i64 (x6 + 1)) M := by
  subst hP38_8; subst hP38_20; exact Eq.mp (by kernel_rfl) (G38_20 L b38_8 c38_21 x1 x2 x5 x5n x5c x6 M)
theorem P38_20_eq (L : Rec) (x1 : Option Addr) (x2 : Nat) (x5 : Option Addr) (x5n : Nat) (x5c : Nat) (x6 : Int) (M : AMem) : P38_20 L x1 x2 x5 x5n x5c x6 M =
  P38_8 L x1 x2 x5 x5n x5c (IntKind.wrap .i64 (x6 + 1)) M := QP38_20_eq L P38_8 (Classical.choose_spec XP38_8) P38_20 (Classical.choose_spec XP38_20) x1 x2 x5 x5n x5c x6 M
theorem G38_21 (L : Rec) (x5 : Option Addr) (x5n : Nat) (x5c : Nat) (M : AMem) : code L (.seq (.ops o38_22) (.ret)) (retK [.tmp 4]) [junk, junk, junk, junk, junk, .slice x5 x5n x5c, junk, junk, junk, junk, junk, junk, junk, junk, junk, junk, junk, junk, junk, junk, junk, junk, junk, junk, junk, junk, junk, junk, junk, junk, junk, junk, junk, junk, junk, junk, junk, junk, junk, junk, junk, junk, junk, junk, junk, junk, junk, junk, junk, junk, junk, junk, junk, junk, junk, junk, junk, junk, junk, junk] M =
  some (.slice x5 x5n x5c, M) := by kernel_rfl
theorem QP38_21_eq (L : Rec) (P38_21 : Rec → (Option Addr) → Nat → Nat → AMem → Res) (hP38_21 : P38_21 = fun (L : Rec) (x5 : Option Addr) (x5n : Nat) (x5c : Nat) (M : AMem) => code L c38_21 (k38_21 L) (s38_21 x5 x5n x5c M) M) (x5 : Option Addr) (x5n : Nat) (x5c : Nat) (M : AMem) : P38_21 L x5 x5n x5c M =
  some (.slice x5 x5n x5c, M) := by
  subst hP38_21; exact Eq.mp (by kernel_rfl) (G38_21 L  x5 x5n x5c M)
theorem P38_21_eq (L : Rec) (x5 : Option Addr) (x5n : Nat) (x5c : Nat) (M : AMem) : P38_21 L x5 x5n x5c M =
  some (.slice x5 x5n x5c, M) := QP38_21_eq L P38_21 (Classical.choose_spec XP38_21) x5 x5n x5c M
theorem GE38 (L : Rec) (b38_8 c38_21 : ACode) (x0_0 : Int) (x0_1 : Int) (x1 : Option Addr) (M : AMem) : enterF L ⟨60, [.tmp 4], .seq (.ops o38_1) (.seq (.ops o38_3) (.seq (.seq (.ops o38_6) (.block 0 (.clear [0, 3, 4, 7, 8, 9, 10, 11, 12, 13, 14, 15, 16, 17, 18, 19, 20, 21, 22, 23, 24, 25, 26, 27, 28, 29, 30, 31, 32, 33, 34, 35, 36, 37, 38, 39, 40, 41, 42, 43, 44, 45, 46, 47, 48, 49, 50, 51, 52, 53, 54, 55, 56, 57, 58, 59] (.loop b38_8)))) (.clear [0, 1, 2, 3, 4, 6, 7, 8, 9, 10, 11, 12, 13, 14, 15, 16, 17, 18, 19, 20, 21, 22, 23, 24, 25, 26, 27, 28, 29, 30, 31, 32, 33, 34, 35, 36, 37, 38, 39, 40, 41, 42, 43, 44, 45, 46, 47, 48, 49, 50, 51, 52, 53, 54, 55, 56, 57, 58, 59] c38_21)))⟩ [.agg #[.int .i64 x0_0, .int .i64 x0_1], .pointer x1] M =
  L.loop b38_8 (blockK 0 (seqK (code L (.clear [0, 1, 2, 3, 4, 6, 7, 8, 9, 10, 11, 12, 13, 14, 15, 16, 17, 18, 19, 20, 21, 22, 23, 24, 25, 26, 27, 28, 29, 30, 31, 32, 33, 34, 35, 36, 37, 38, 39, 40, 41, 42, 43, 44, 45, 46, 47, 48, 49, 50, 51, 52, 53, 54, 55, 56, 57, 58, 59] c38_21) (retK [.tmp 4])) (retK [.tmp 4]))) [junk, .pointer x1, .pointer (some ⟨(List.length M), 0, none⟩), junk, junk, .slice none 0 0, .int .i64 0, junk, junk, junk, junk, junk, junk, junk, junk, junk, junk, junk, junk, junk, junk, junk, junk, junk, junk, junk, junk, junk, junk, junk, junk, junk, junk, junk, junk, junk, junk, junk, junk, junk, junk, junk, junk, junk, junk, junk, junk, junk, junk, junk, junk, junk, junk, junk, junk, junk, junk, junk, junk, junk] (M ++ [AObj.cells [.int .i64 x0_0, .int .i64 x0_1] ⟨false, 0⟩]) := by kernel_rfl
theorem QE38 (L : Rec) (P38_8 : Rec → (Option Addr) → Nat → (Option Addr) → Nat → Nat → Int → AMem → Res) (hP38_8 : P38_8 = fun (L : Rec) (x1 : Option Addr) (x2 : Nat) (x5 : Option Addr) (x5n : Nat) (x5c : Nat) (x6 : Int) (M : AMem) => L.loop b38_8 (k38_8 L) (s38_8 x1 x2 x5 x5n x5c x6 M) M) (x0_0 : Int) (x0_1 : Int) (x1 : Option Addr) (M : AMem) : enterF L a38 [.agg #[.int .i64 x0_0, .int .i64 x0_1], .pointer x1] M =
  P38_8 L x1 (List.length M) none 0 0 0 (M ++ [AObj.cells [.int .i64 x0_0, .int .i64 x0_1] ⟨false, 0⟩]) := by
  subst hP38_8; exact Eq.mp (by kernel_rfl) (GE38 L b38_8 c38_21 x0_0 x0_1 x1 M)
theorem E38 (L : Rec) (x0_0 : Int) (x0_1 : Int) (x1 : Option Addr) (M : AMem) : enterF L a38 [.agg #[.int .i64 x0_0, .int .i64 x0_1], .pointer x1] M =
  P38_8 L x1 (List.length M) none 0 0 0 (M ++ [AObj.cells [.int .i64 x0_0, .int .i64 x0_1] ⟨false, 0⟩]) := QE38 L P38_8 (Classical.choose_spec XP38_8) x0_0 x0_1 x1 M
/-! #### skylightref31.At -/
theorem GE52 (L : Rec) (x0_0 : Int) (x0_1 : Int) (x1_0 : Int) (x1_1 : Int) (x1_2 : Int) : enterF L ⟨31, [.tmp 4], .seq (.ops o52_1) (.seq (.seq (.ops o52_4) (.cond (.tmp 7) (.seq (.ops o52_7) (.ret)) (.skip))) (.seq (.seq (.ops o52_12) (.cond (.tmp 13) (.seq (.ops o52_15) (.ret)) (.skip))) (.seq (.ops o52_19) (.ret))))⟩ [.agg #[.int .i64 x0_0, .int .i64 x0_1], .agg #[.int .i64 x1_0, .int .i64 x1_1, .int .i64 x1_2]] [] =
  (if (x1_0 == 2) = true
    then some (.int .i64 (IntKind.wrap .i64 (1 + x1_1)), ([AObj.cells [.int .i64 x0_0, .int .i64 x0_1] ⟨false, 0⟩, AObj.cells [.int .i64 x1_0, .int .i64 x1_1, .int .i64 x1_2] ⟨false, 0⟩] : AMem))
    else (if (x1_0 == 3) = true
      then some (.int .i64 (IntKind.wrap .i64 ((IntKind.wrap .i64 (1 + x0_1)) + x1_1)), ([AObj.cells [.int .i64 x0_0, .int .i64 x0_1] ⟨false, 0⟩, AObj.cells [.int .i64 x1_0, .int .i64 x1_1, .int .i64 x1_2] ⟨false, 0⟩] : AMem))
      else some (.int .i64 (IntKind.wrap .i64 ((IntKind.wrap .i64 ((IntKind.wrap .i64 (1 + (IntKind.wrap .i64 (2 * x0_1)))) + (IntKind.wrap .i64 (3 * x1_1)))) + x1_2)), ([AObj.cells [.int .i64 x0_0, .int .i64 x0_1] ⟨false, 0⟩, AObj.cells [.int .i64 x1_0, .int .i64 x1_1, .int .i64 x1_2] ⟨false, 0⟩] : AMem)))) := by kernel_rfl
theorem E52 (L : Rec) (x0_0 : Int) (x0_1 : Int) (x1_0 : Int) (x1_1 : Int) (x1_2 : Int) : enterF L a52 [.agg #[.int .i64 x0_0, .int .i64 x0_1], .agg #[.int .i64 x1_0, .int .i64 x1_1, .int .i64 x1_2]] [] =
  (if (x1_0 == 2) = true
    then some (.int .i64 (IntKind.wrap .i64 (1 + x1_1)), ([AObj.cells [.int .i64 x0_0, .int .i64 x0_1] ⟨false, 0⟩, AObj.cells [.int .i64 x1_0, .int .i64 x1_1, .int .i64 x1_2] ⟨false, 0⟩] : AMem))
    else (if (x1_0 == 3) = true
      then some (.int .i64 (IntKind.wrap .i64 ((IntKind.wrap .i64 (1 + x0_1)) + x1_1)), ([AObj.cells [.int .i64 x0_0, .int .i64 x0_1] ⟨false, 0⟩, AObj.cells [.int .i64 x1_0, .int .i64 x1_1, .int .i64 x1_2] ⟨false, 0⟩] : AMem))
      else some (.int .i64 (IntKind.wrap .i64 ((IntKind.wrap .i64 ((IntKind.wrap .i64 (1 + (IntKind.wrap .i64 (2 * x0_1)))) + (IntKind.wrap .i64 (3 * x1_1)))) + x1_2)), ([AObj.cells [.int .i64 x0_0, .int .i64 x0_1] ⟨false, 0⟩, AObj.cells [.int .i64 x1_0, .int .i64 x1_1, .int .i64 x1_2] ⟨false, 0⟩] : AMem)))) := Eq.mp (by kernel_rfl) (GE52 L  x0_0 x0_1 x1_0 x1_1 x1_2)
/-! #### skylightlaw31.LayoutFilm -/
noncomputable def k7_20 (L : Rec) : KT := blockK 0 (seqK (code L (.clear [0, 1, 4, 5, 6, 10, 11, 12, 13, 14, 15, 16, 17, 18, 19, 20, 21, 22, 23, 24, 25, 26, 27, 28, 29, 30, 31, 32, 33, 34, 35, 36, 37, 38, 39, 40, 41, 42, 43, 44, 45, 46, 47, 48, 49, 50, 51, 52, 53, 54, 55, 56, 57, 58, 59, 60, 61, 62, 63, 64, 65, 66, 67, 68, 69, 70, 71, 72, 73, 74, 75, 76, 77, 78, 79, 80, 81, 82, 83, 84, 85, 86, 87, 88, 89, 90, 91, 92, 93, 94, 95, 96, 97, 98, 99, 100, 101, 102, 103, 104, 105, 106, 107, 108, 109, 110, 111, 112, 113, 114, 115, 116, 117, 118, 119, 120, 121, 122, 123, 124, 125, 126, 127, 128, 129, 130, 131, 132, 133, 134, 135, 136, 137, 138, 139, 140, 141, 142, 143, 144, 145, 146, 147, 148, 149, 150, 151] c7_43) (retK [.tmp 6])) (retK [.tmp 6]))
def s7_20 (x1 : Option Addr) (x1n : Nat) (x1c : Nat) (x2 : Int) (x3 : Nat) (x7 : Nat) (x8 : Option Addr) (x9 : Nat) (x11 : Int) (M : AMem) : List Value := [junk, .slice x1 x1n x1c, .int .u8 x2, .pointer (some ⟨x3, 0, none⟩), junk, junk, junk, .pointer (some ⟨x7, 0, none⟩), .pointer x8, .pointer (some ⟨x9, 0, none⟩), junk, .int .i64 x11, junk, junk, junk, junk, junk, junk, junk, junk, junk, junk, junk, junk, junk, junk, junk, junk, junk, junk, junk, junk, junk, junk, junk, junk, junk, junk, junk, junk, junk, junk, junk, junk, junk, junk, junk, junk, junk, junk, junk, junk, junk, junk, junk, junk, junk, junk, junk, junk, junk, junk, junk, junk, junk, junk, junk, junk, junk, junk, junk, junk, junk, junk, junk, junk, junk, junk, junk, junk, junk, junk, junk, junk, junk, junk, junk, junk, junk, junk, junk, junk, junk, junk, junk, junk, junk, junk, junk, junk, junk, junk, junk, junk, junk, junk, junk, junk, junk, junk, junk, junk, junk, junk, junk, junk, junk, junk, junk, junk, junk, junk, junk, junk, junk, junk, junk, junk, junk, junk, junk, junk, junk, junk, junk, junk, junk, junk, junk, junk, junk, junk, junk, junk, junk, junk, junk, junk, junk, junk, junk, junk]
theorem XP7_20 : ∃ P : Rec → (Option Addr) → Nat → Nat → Int → Nat → Nat → (Option Addr) → Nat → Int → AMem → Res, P = fun (L : Rec) (x1 : Option Addr) (x1n : Nat) (x1c : Nat) (x2 : Int) (x3 : Nat) (x7 : Nat) (x8 : Option Addr) (x9 : Nat) (x11 : Int) (M : AMem) => L.loop b7_20 (k7_20 L) (s7_20 x1 x1n x1c x2 x3 x7 x8 x9 x11 M) M := ⟨_, rfl⟩
noncomputable def P7_20 : Rec → (Option Addr) → Nat → Nat → Int → Nat → Nat → (Option Addr) → Nat → Int → AMem → Res := Classical.choose XP7_20
noncomputable def k7_42 (L : Rec) : KT := postK [0, 4, 5, 6, 10, 12, 13, 14, 15, 16, 17, 18, 19, 20, 21, 22, 23, 24, 25, 26, 27, 28, 29, 30, 31, 32, 33, 34, 35, 36, 37, 38, 39, 40, 41, 42, 43, 44, 45, 46, 47, 48, 49, 50, 51, 52, 53, 54, 55, 56, 57, 58, 59, 60, 61, 62, 63, 64, 65, 66, 67, 68, 69, 70, 71, 72, 73, 74, 75, 76, 77, 78, 79, 80, 81, 82, 83, 84, 85, 86, 87, 88, 89, 90, 91, 92, 93, 94, 95, 96, 97, 98, 99, 100, 101, 102, 103, 104, 105, 106, 107, 108, 109, 110, 111, 112, 113, 114, 115, 116, 117, 118, 119, 120, 121, 122, 123, 124, 125, 126, 127, 128, 129, 130, 131, 132, 133, 134, 135, 136, 137, 138, 139, 140, 141, 142, 143, 144, 145, 146, 147, 148, 149, 150, 151] (loopK L b7_20 (blockK 0 (seqK (code L (.clear [0, 1, 4, 5, 6, 10, 11, 12, 13, 14, 15, 16, 17, 18, 19, 20, 21, 22, 23, 24, 25, 26, 27, 28, 29, 30, 31, 32, 33, 34, 35, 36, 37, 38, 39, 40, 41, 42, 43, 44, 45, 46, 47, 48, 49, 50, 51, 52, 53, 54, 55, 56, 57, 58, 59, 60, 61, 62, 63, 64, 65, 66, 67, 68, 69, 70, 71, 72, 73, 74, 75, 76, 77, 78, 79, 80, 81, 82, 83, 84, 85, 86, 87, 88, 89, 90, 91, 92, 93, 94, 95, 96, 97, 98, 99, 100, 101, 102, 103, 104, 105, 106, 107, 108, 109, 110, 111, 112, 113, 114, 115, 116, 117, 118, 119, 120, 121, 122, 123, 124, 125, 126, 127, 128, 129, 130, 131, 132, 133, 134, 135, 136, 137, 138, 139, 140, 141, 142, 143, 144, 145, 146, 147, 148, 149, 150, 151] c7_43) (retK [.tmp 6])) (retK [.tmp 6]))))
def s7_42 (x1 : Option Addr) (x1n : Nat) (x1c : Nat) (x2 : Int) (x3 : Nat) (x7 : Nat) (x8 : Option Addr) (x9 : Nat) (x11 : Int) (M : AMem) : List Value := [junk, .slice x1 x1n x1c, .int .u8 x2, .pointer (some ⟨x3, 0, none⟩), junk, junk, junk, .pointer (some ⟨x7, 0, none⟩), .pointer x8, .pointer (some ⟨x9, 0, none⟩), junk, .int .i64 x11, junk, junk, junk, junk, junk, junk, junk, junk, junk, junk, junk, junk, junk, junk, junk, junk, junk, junk, junk, junk, junk, junk, junk, junk, junk, junk, junk, junk, junk, junk, junk, junk, junk, junk, junk, junk, junk, junk, junk, junk, junk, junk, junk, junk, junk, junk, junk, junk, junk, junk, junk, junk, junk, junk, junk, junk, junk, junk, junk, junk, junk, junk, junk, junk, junk, junk, junk, junk, junk, junk, junk, junk, junk, junk, junk, junk, junk, junk, junk, junk, junk, junk, junk, junk, junk, junk, junk, junk, junk, junk, junk, junk, junk, junk, junk, junk, junk, junk, junk, junk, junk, junk, junk, junk, junk, junk, junk, junk, junk, junk, junk, junk, junk, junk, junk, junk, junk, junk, junk, junk, junk, junk, junk, junk, junk, junk, junk, junk, junk, junk, junk, junk, junk, junk, junk, junk, junk, junk, junk, junk]
theorem XP7_42 : ∃ P : Rec → (Option Addr) → Nat → Nat → Int → Nat → Nat → (Option Addr) → Nat → Int → AMem → Res, P = fun (L : Rec) (x1 : Option Addr) (x1n : Nat) (x1c : Nat) (x2 : Int) (x3 : Nat) (x7 : Nat) (x8 : Option Addr) (x9 : Nat) (x11 : Int) (M : AMem) => code L c7_42 (k7_42 L) (s7_42 x1 x1n x1c x2 x3 x7 x8 x9 x11 M) M := ⟨_, rfl⟩
noncomputable def P7_42 : Rec → (Option Addr) → Nat → Nat → Int → Nat → Nat → (Option Addr) → Nat → Int → AMem → Res := Classical.choose XP7_42
noncomputable def k7_43 (L : Rec) : KT := retK [.tmp 6]
def s7_43 (x2 : Int) (x3 : Nat) (x7 : Nat) (x8 : Option Addr) (x9 : Nat) (M : AMem) : List Value := [junk, junk, .int .u8 x2, .pointer (some ⟨x3, 0, none⟩), junk, junk, junk, .pointer (some ⟨x7, 0, none⟩), .pointer x8, .pointer (some ⟨x9, 0, none⟩), junk, junk, junk, junk, junk, junk, junk, junk, junk, junk, junk, junk, junk, junk, junk, junk, junk, junk, junk, junk, junk, junk, junk, junk, junk, junk, junk, junk, junk, junk, junk, junk, junk, junk, junk, junk, junk, junk, junk, junk, junk, junk, junk, junk, junk, junk, junk, junk, junk, junk, junk, junk, junk, junk, junk, junk, junk, junk, junk, junk, junk, junk, junk, junk, junk, junk, junk, junk, junk, junk, junk, junk, junk, junk, junk, junk, junk, junk, junk, junk, junk, junk, junk, junk, junk, junk, junk, junk, junk, junk, junk, junk, junk, junk, junk, junk, junk, junk, junk, junk, junk, junk, junk, junk, junk, junk, junk, junk, junk, junk, junk, junk, junk, junk, junk, junk, junk, junk, junk, junk, junk, junk, junk, junk, junk, junk, junk, junk, junk, junk, junk, junk, junk, junk, junk, junk, junk, junk, junk, junk, junk, junk]
theorem XP7_43 : ∃ P : Rec → Int → Nat → Nat → (Option Addr) → Nat → AMem → Res, P = fun (L : Rec) (x2 : Int) (x3 : Nat) (x7 : Nat) (x8 : Option Addr) (x9 : Nat) (M : AMem) => code L c7_43 (k7_43 L) (s7_43 x2 x3 x7 x8 x9 M) M := ⟨_, rfl⟩
noncomputable def P7_43 : Rec → Int → Nat → Nat → (Option Addr) → Nat → AMem → Res := Classical.choose XP7_43
noncomputable def k7_57 (L : Rec) : KT := blockK 2 (seqK (code L (.clear [0, 1, 3, 4, 5, 6, 8, 9, 10, 11, 12, 13, 14, 15, 16, 17, 18, 19, 20, 21, 22, 23, 24, 25, 26, 27, 28, 29, 30, 31, 32, 33, 34, 35, 36, 37, 38, 39, 40, 41, 42, 43, 44, 45, 46, 47, 48, 49, 50, 51, 52, 53, 54, 55, 56, 57, 58, 59, 60, 61, 62, 63, 64, 65, 66, 67, 68, 69, 70, 71, 72, 73, 74, 75, 76, 77, 78, 79, 80, 81, 82, 83, 84, 85, 86, 87, 88, 89, 90, 91, 92, 93, 94, 95, 96, 97, 98, 99, 100, 101, 102, 103, 104, 105, 106, 107, 108, 109, 110, 111, 112, 113, 114, 115, 116, 117, 118, 119, 120, 121, 122, 123, 124, 125, 126, 127, 128, 129, 130, 131, 132, 133, 134, 135, 136, 137, 138, 139, 140, 141, 142, 143, 144, 145, 146, 147, 148, 149, 150, 151] c7_74) (retK [.tmp 6])) (retK [.tmp 6]))
def s7_57 (x2 : Int) (x7 : Nat) (x17 : Option Addr) (x17n : Nat) (x17c : Nat) (x18 : Option Addr) (x18n : Nat) (x18c : Nat) (x19 : Int) (M : AMem) : List Value := [junk, junk, .int .u8 x2, junk, junk, junk, junk, .pointer (some ⟨x7, 0, none⟩), junk, junk, junk, junk, junk, junk, junk, junk, junk, .slice x17 x17n x17c, .slice x18 x18n x18c, .int .i64 x19, junk, junk, junk, junk, junk, junk, junk, junk, junk, junk, junk, junk, junk, junk, junk, junk, junk, junk, junk, junk, junk, junk, junk, junk, junk, junk, junk, junk, junk, junk, junk, junk, junk, junk, junk, junk, junk, junk, junk, junk, junk, junk, junk, junk, junk, junk, junk, junk, junk, junk, junk, junk, junk, junk, junk, junk, junk, junk, junk, junk, junk, junk, junk, junk, junk, junk, junk, junk, junk, junk, junk, junk, junk, junk, junk, junk, junk, junk, junk, junk, junk, junk, junk, junk, junk, junk, junk, junk, junk, junk, junk, junk, junk, junk, junk, junk, junk, junk, junk, junk, junk, junk, junk, junk, junk, junk, junk, junk, junk, junk, junk, junk, junk, junk, junk, junk, junk, junk, junk, junk, junk, junk, junk, junk, junk, junk, junk, junk, junk, junk, junk, junk]
theorem XP7_57 : ∃ P : Rec → Int → Nat → (Option Addr) → Nat → Nat → (Option Addr) → Nat → Nat → Int → AMem → Res, P = fun (L : Rec) (x2 : Int) (x7 : Nat) (x17 : Option Addr) (x17n : Nat) (x17c : Nat) (x18 : Option Addr) (x18n : Nat) (x18c : Nat) (x19 : Int) (M : AMem) => L.loop b7_57 (k7_57 L) (s7_57 x2 x7 x17 x17n x17c x18 x18n x18c x19 M) M := ⟨_, rfl⟩
noncomputable def P7_57 : Rec → Int → Nat → (Option Addr) → Nat → Nat → (Option Addr) → Nat → Nat → Int → AMem → Res := Classical.choose XP7_57
noncomputable def k7_73 (L : Rec) : KT := postK [0, 1, 3, 4, 5, 6, 8, 9, 10, 11, 12, 13, 14, 15, 16, 20, 21, 22, 23, 24, 25, 26, 27, 28, 29, 30, 31, 32, 33, 34, 35, 36, 37, 38, 39, 40, 41, 42, 43, 44, 45, 46, 47, 48, 49, 50, 51, 52, 53, 54, 55, 56, 57, 58, 59, 60, 61, 62, 63, 64, 65, 66, 67, 68, 69, 70, 71, 72, 73, 74, 75, 76, 77, 78, 79, 80, 81, 82, 83, 84, 85, 86, 87, 88, 89, 90, 91, 92, 93, 94, 95, 96, 97, 98, 99, 100, 101, 102, 103, 104, 105, 106, 107, 108, 109, 110, 111, 112, 113, 114, 115, 116, 117, 118, 119, 120, 121, 122, 123, 124, 125, 126, 127, 128, 129, 130, 131, 132, 133, 134, 135, 136, 137, 138, 139, 140, 141, 142, 143, 144, 145, 146, 147, 148, 149, 150, 151] (loopK L b7_57 (blockK 2 (seqK (code L (.clear [0, 1, 3, 4, 5, 6, 8, 9, 10, 11, 12, 13, 14, 15, 16, 17, 18, 19, 20, 21, 22, 23, 24, 25, 26, 27, 28, 29, 30, 31, 32, 33, 34, 35, 36, 37, 38, 39, 40, 41, 42, 43, 44, 45, 46, 47, 48, 49, 50, 51, 52, 53, 54, 55, 56, 57, 58, 59, 60, 61, 62, 63, 64, 65, 66, 67, 68, 69, 70, 71, 72, 73, 74, 75, 76, 77, 78, 79, 80, 81, 82, 83, 84, 85, 86, 87, 88, 89, 90, 91, 92, 93, 94, 95, 96, 97, 98, 99, 100, 101, 102, 103, 104, 105, 106, 107, 108, 109, 110, 111, 112, 113, 114, 115, 116, 117, 118, 119, 120, 121, 122, 123, 124, 125, 126, 127, 128, 129, 130, 131, 132, 133, 134, 135, 136, 137, 138, 139, 140, 141, 142, 143, 144, 145, 146, 147, 148, 149, 150, 151] c7_74) (retK [.tmp 6])) (retK [.tmp 6]))))
def s7_73 (x2 : Int) (x7 : Nat) (x17 : Option Addr) (x17n : Nat) (x17c : Nat) (x18 : Option Addr) (x18n : Nat) (x18c : Nat) (x19 : Int) (M : AMem) : List Value := [junk, junk, .int .u8 x2, junk, junk, junk, junk, .pointer (some ⟨x7, 0, none⟩), junk, junk, junk, junk, junk, junk, junk, junk, junk, .slice x17 x17n x17c, .slice x18 x18n x18c, .int .i64 x19, junk, junk, junk, junk, junk, junk, junk, junk, junk, junk, junk, junk, junk, junk, junk, junk, junk, junk, junk, junk, junk, junk, junk, junk, junk, junk, junk, junk, junk, junk, junk, junk, junk, junk, junk, junk, junk, junk, junk, junk, junk, junk, junk, junk, junk, junk, junk, junk, junk, junk, junk, junk, junk, junk, junk, junk, junk, junk, junk, junk, junk, junk, junk, junk, junk, junk, junk, junk, junk, junk, junk, junk, junk, junk, junk, junk, junk, junk, junk, junk, junk, junk, junk, junk, junk, junk, junk, junk, junk, junk, junk, junk, junk, junk, junk, junk, junk, junk, junk, junk, junk, junk, junk, junk, junk, junk, junk, junk, junk, junk, junk, junk, junk, junk, junk, junk, junk, junk, junk, junk, junk, junk, junk, junk, junk, junk, junk, junk, junk, junk, junk, junk]
theorem XP7_73 : ∃ P : Rec → Int → Nat → (Option Addr) → Nat → Nat → (Option Addr) → Nat → Nat → Int → AMem → Res, P = fun (L : Rec) (x2 : Int) (x7 : Nat) (x17 : Option Addr) (x17n : Nat) (x17c : Nat) (x18 : Option Addr) (x18n : Nat) (x18c : Nat) (x19 : Int) (M : AMem) => code L c7_73 (k7_73 L) (s7_73 x2 x7 x17 x17n x17c x18 x18n x18c x19 M) M := ⟨_, rfl⟩
noncomputable def P7_73 : Rec → Int → Nat → (Option Addr) → Nat → Nat → (Option Addr) → Nat → Nat → Int → AMem → Res := Classical.choose XP7_73
noncomputable def k7_74 (L : Rec) : KT := retK [.tmp 6]
def s7_74 (x2 : Int) (x7 : Nat) (M : AMem) : List Value := [junk, junk, .int .u8 x2, junk, junk, junk, junk, .pointer (some ⟨x7, 0, none⟩), junk, junk, junk, junk, junk, junk, junk, junk, junk, junk, junk, junk, junk, junk, junk, junk, junk, junk, junk, junk, junk, junk, junk, junk, junk, junk, junk, junk, junk, junk, junk, junk, junk, junk, junk, junk, junk, junk, junk, junk, junk, junk, junk, junk, junk, junk, junk, junk, junk, junk, junk, junk, junk, junk, junk, junk, junk, junk, junk, junk, junk, junk, junk, junk, junk, junk, junk, junk, junk, junk, junk, junk, junk, junk, junk, junk, junk, junk, junk, junk, junk, junk, junk, junk, junk, junk, junk, junk, junk, junk, junk, junk, junk, junk, junk, junk, junk, junk, junk, junk, junk, junk, junk, junk, junk, junk, junk, junk, junk, junk, junk, junk, junk, junk, junk, junk, junk, junk, junk, junk, junk, junk, junk, junk, junk, junk, junk, junk, junk, junk, junk, junk, junk, junk, junk, junk, junk, junk, junk, junk, junk, junk, junk, junk]
theorem XP7_74 : ∃ P : Rec → Int → Nat → AMem → Res, P = fun (L : Rec) (x2 : Int) (x7 : Nat) (M : AMem) => code L c7_74 (k7_74 L) (s7_74 x2 x7 M) M := ⟨_, rfl⟩
noncomputable def P7_74 : Rec → Int → Nat → AMem → Res := Classical.choose XP7_74
theorem G7_20 (L : Rec) (b7_20 c7_42 c7_43 : ACode) (x1 : Option Addr) (x1n : Nat) (x1c : Nat) (x2 : Int) (x3 : Nat) (x7 : Nat) (x8 : Option Addr) (x9 : Nat) (x11 : Int) (M : AMem) : code L (.post (.seq (.seq (.ops o7_23) (.cond (.tmp 53) (.skip) (.exit 0))) (.seq (.block 1 (.seq (.draw [] 0 o7_30 []) (.seq (.ops o7_32) (.seq (.ops o7_34) (.seq (.ops o7_36) (.cond (.tmp 96) (.seq (.ops o7_39) (.ret)) (.skip))))))) (.clear [0, 4, 5, 6, 10, 12, 13, 14, 15, 16, 17, 18, 19, 20, 21, 22, 23, 24, 25, 26, 27, 28, 29, 30, 31, 32, 33, 34, 35, 36, 37, 38, 39, 40, 41, 42, 43, 44, 45, 46, 47, 48, 49, 50, 51, 52, 53, 54, 55, 56, 57, 58, 59, 60, 61, 62, 63, 64, 65, 66, 67, 68, 69, 70, 71, 72, 73, 74, 75, 76, 77, 78, 79, 80, 81, 82, 83, 84, 85, 86, 87, 88, 89, 90, 91, 92, 93, 94, 95, 96, 97, 98, 99, 100, 101, 102, 103, 104, 105, 106, 107, 108, 109, 110, 111, 112, 113, 114, 115, 116, 117, 118, 119, 120, 121, 122, 123, 124, 125, 126, 127, 128, 129, 130, 131, 132, 133, 134, 135, 136, 137, 138, 139, 140, 141, 142, 143, 144, 145, 146, 147, 148, 149, 150, 151] c7_42))) [0, 4, 5, 6, 10, 12, 13, 14, 15, 16, 17, 18, 19, 20, 21, 22, 23, 24, 25, 26, 27, 28, 29, 30, 31, 32, 33, 34, 35, 36, 37, 38, 39, 40, 41, 42, 43, 44, 45, 46, 47, 48, 49, 50, 51, 52, 53, 54, 55, 56, 57, 58, 59, 60, 61, 62, 63, 64, 65, 66, 67, 68, 69, 70, 71, 72, 73, 74, 75, 76, 77, 78, 79, 80, 81, 82, 83, 84, 85, 86, 87, 88, 89, 90, 91, 92, 93, 94, 95, 96, 97, 98, 99, 100, 101, 102, 103, 104, 105, 106, 107, 108, 109, 110, 111, 112, 113, 114, 115, 116, 117, 118, 119, 120, 121, 122, 123, 124, 125, 126, 127, 128, 129, 130, 131, 132, 133, 134, 135, 136, 137, 138, 139, 140, 141, 142, 143, 144, 145, 146, 147, 148, 149, 150, 151]) (loopK L b7_20 (blockK 0 (seqK (code L (.clear [0, 1, 4, 5, 6, 10, 11, 12, 13, 14, 15, 16, 17, 18, 19, 20, 21, 22, 23, 24, 25, 26, 27, 28, 29, 30, 31, 32, 33, 34, 35, 36, 37, 38, 39, 40, 41, 42, 43, 44, 45, 46, 47, 48, 49, 50, 51, 52, 53, 54, 55, 56, 57, 58, 59, 60, 61, 62, 63, 64, 65, 66, 67, 68, 69, 70, 71, 72, 73, 74, 75, 76, 77, 78, 79, 80, 81, 82, 83, 84, 85, 86, 87, 88, 89, 90, 91, 92, 93, 94, 95, 96, 97, 98, 99, 100, 101, 102, 103, 104, 105, 106, 107, 108, 109, 110, 111, 112, 113, 114, 115, 116, 117, 118, 119, 120, 121, 122, 123, 124, 125, 126, 127, 128, 129, 130, 131, 132, 133, 134, 135, 136, 137, 138, 139, 140, 141, 142, 143, 144, 145, 146, 147, 148, 149, 150, 151] c7_43) (retK [.tmp 6])) (retK [.tmp 6])))) [junk, .slice x1 x1n x1c, .int .u8 x2, .pointer (some ⟨x3, 0, none⟩), junk, junk, junk, .pointer (some ⟨x7, 0, none⟩), .pointer x8, .pointer (some ⟨x9, 0, none⟩), junk, .int .i64 x11, junk, junk, junk, junk, junk, junk, junk, junk, junk, junk, junk, junk, junk, junk, junk, junk, junk, junk, junk, junk, junk, junk, junk, junk, junk, junk, junk, junk, junk, junk, junk, junk, junk, junk, junk, junk, junk, junk, junk, junk, junk, junk, junk, junk, junk, junk, junk, junk, junk, junk, junk, junk, junk, junk, junk, junk, junk, junk, junk, junk, junk, junk, junk, junk, junk, junk, junk, junk, junk, junk, junk, junk, junk, junk, junk, junk, junk, junk, junk, junk, junk, junk, junk, junk, junk, junk, junk, junk, junk, junk, junk, junk, junk, junk, junk, junk, junk, junk, junk, junk, junk, junk, junk, junk, junk, junk, junk, junk, junk, junk, junk, junk, junk, junk, junk, junk, junk, junk, junk, junk, junk, junk, junk, junk, junk, junk, junk, junk, junk, junk, junk, junk, junk, junk, junk, junk, junk, junk, junk, junk] M =
  (if (decide (x11 < (Int.ofNat x1n))) = true
    then (Option.bind (intOf? .i64 (AMem.ld M x7 0)) fun x_1 =>
      (Option.bind (intOf? .i64 (AMem.ld M x7 1)) fun x_2 =>
      (match x1 with
      | some a_3 => (if 0 ≤ x11 ∧ x11 < (Int.ofNat x1n)
        then (Option.bind (intOf? .i64 (AMem.ld M a_3.block ((a_3.off + ((Int.toNat x11) * 3)) + 1))) fun x_4 =>
          (match x1 with
          | some a_5 => (if 0 ≤ x11 ∧ x11 < (Int.ofNat x1n)
            then (Option.bind (intOf? .i64 (AMem.ld M a_5.block ((a_5.off + ((Int.toNat x11) * 3)) + 2))) fun x_6 =>
              (Option.bind (L.call 20 [.agg #[.int .i64 x_1, .int .i64 x_2], .int .i64 x_4, .int .i64 x_6] []) fun r_7 =>
              (Option.bind (intOf? .i64 (some r_7.1)) fun x_8 =>
              (Option.bind (L.call 27 [.pointer x8, .int .i64 x_8] M) fun r_9 =>
              (Option.bind (tupOf? 2 r_9.1) fun cs_10 =>
              (Option.bind (cs_10[0]?) fun u_11 =>
              (Option.bind (intOf? .u64 (some u_11)) fun x_12 =>
              (Option.bind (cs_10[1]?) fun u_13 =>
              (Option.bind (boolOf? (some u_13)) fun q_14 =>
              (Option.bind (L.call 26 [.pointer (some ⟨x9, 0, none⟩), .int .i64 x_8] r_9.2) fun r_15 =>
              (Option.bind (tupOf? 2 r_15.1) fun cs_16 =>
              (Option.bind (cs_16[0]?) fun u_17 =>
              (Option.bind (intOf? .u64 (some u_17)) fun x_18 =>
              (Option.bind (cs_16[1]?) fun u_19 =>
              (Option.bind (boolOf? (some u_19)) fun q_20 =>
              (Option.bind (L.call 28 [.pointer x8, .int .i64 x_8, .int .u64 x_12, .int .u64 (IntKind.wrap .u64 ((IntKind.wrap .u64 (x_12 + (IntKind.wrap .u64 x11))) + 1))] r_15.2) fun r_21 =>
              (Option.bind (boolOf? (some r_21.1)) fun q_22 =>
              (Option.bind (L.call 29 [.pointer (some ⟨x9, 0, none⟩), .int .i64 x_8, .int .u64 x_18, .int .u64 (IntKind.wrap .u64 ((IntKind.wrap .u64 (x_18 + (IntKind.wrap .u64 x11))) + 1))] r_21.2) fun r_23 =>
              (Option.bind (boolOf? (some r_23.1)) fun q_24 =>
              (if (!(q_22 == q_24)) = true
              then some (.bool false, r_23.2)
              else code L c7_42 (postK [0, 4, 5, 6, 10, 12, 13, 14, 15, 16, 17, 18, 19, 20, 21, 22, 23, 24, 25, 26, 27, 28, 29, 30, 31, 32, 33, 34, 35, 36, 37, 38, 39, 40, 41, 42, 43, 44, 45, 46, 47, 48, 49, 50, 51, 52, 53, 54, 55, 56, 57, 58, 59, 60, 61, 62, 63, 64, 65, 66, 67, 68, 69, 70, 71, 72, 73, 74, 75, 76, 77, 78, 79, 80, 81, 82, 83, 84, 85, 86, 87, 88, 89, 90, 91, 92, 93, 94, 95, 96, 97, 98, 99, 100, 101, 102, 103, 104, 105, 106, 107, 108, 109, 110, 111, 112, 113, 114, 115, 116, 117, 118, 119, 120, 121, 122, 123, 124, 125, 126, 127, 128, 129, 130, 131, 132, 133, 134, 135, 136, 137, 138, 139, 140, 141, 142, 143, 144, 145, 146, 147, 148, 149, 150, 151] (loopK L b7_20 (blockK 0 (seqK (code L (.clear [0, 1, 4, 5, 6, 10, 11, 12, 13, 14, 15, 16, 17, 18, 19, 20, 21, 22, 23, 24, 25, 26, 27, 28, 29, 30, 31, 32, 33, 34, 35, 36, 37, 38, 39, 40, 41, 42, 43, 44, 45, 46, 47, 48, 49, 50, 51, 52, 53, 54, 55, 56, 57, 58, 59, 60, 61, 62, 63, 64, 65, 66, 67, 68, 69, 70, 71, 72, 73, 74, 75, 76, 77, 78, 79, 80, 81, 82, 83, 84, 85, 86, 87, 88, 89, 90, 91, 92, 93, 94, 95, 96, 97, 98, 99, 100, 101, 102, 103, 104, 105, 106, 107, 108, 109, 110, 111, 112, 113, 114, 115, 116, 117, 118, 119, 120, 121, 122, 123, 124, 125, 126, 127, 128, 129, 130, 131, 132, 133, 134, 135, 136, 137, 138, 139, 140, 141, 142, 143, 144, 145, 146, 147, 148, 149, 150, 151] c7_43) (retK [.tmp 6])) (retK [.tmp 6]))))) [junk, .slice x1 x1n x1c, .int .u8 x2, .pointer (some ⟨x3, 0, none⟩), junk, junk, junk, .pointer (some ⟨x7, 0, none⟩), .pointer x8, .pointer (some ⟨x9, 0, none⟩), junk, .int .i64 x11, junk, junk, junk, junk, junk, junk, junk, junk, junk, junk, junk, junk, junk, junk, junk, junk, junk, junk, junk, junk, junk, junk, junk, junk, junk, junk, junk, junk, junk, junk, junk, junk, junk, junk, junk, junk, junk, junk, junk, junk, junk, junk, junk, junk, junk, junk, junk, junk, junk, junk, junk, junk, junk, junk, junk, junk, junk, junk, junk, junk, junk, junk, junk, junk, junk, junk, junk, junk, junk, junk, junk, junk, junk, junk, junk, junk, junk, junk, junk, junk, junk, junk, junk, junk, junk, junk, junk, junk, junk, junk, junk, junk, junk, junk, junk, junk, junk, junk, junk, junk, junk, junk, junk, junk, junk, junk, junk, junk, junk, junk, junk, junk, junk, junk, junk, junk, junk, junk, junk, junk, junk, junk, junk, junk, junk, junk, junk, junk, junk, junk, junk, junk, junk, junk, junk, junk, junk, junk, junk, junk] r_23.2))))))))))))))))))))
            else none)
          | none => none))
        else none)
      | none => none)))
    else code L c7_43 (retK [.tmp 6]) [junk, junk, .int .u8 x2, .pointer (some ⟨x3, 0, none⟩), junk, junk, junk, .pointer (some ⟨x7, 0, none⟩), .pointer x8, .pointer (some ⟨x9, 0, none⟩), junk, junk, junk, junk, junk, junk, junk, junk, junk, junk, junk, junk, junk, junk, junk, junk, junk, junk, junk, junk, junk, junk, junk, junk, junk, junk, junk, junk, junk, junk, junk, junk, junk, junk, junk, junk, junk, junk, junk, junk, junk, junk, junk, junk, junk, junk, junk, junk, junk, junk, junk, junk, junk, junk, junk, junk, junk, junk, junk, junk, junk, junk, junk, junk, junk, junk, junk, junk, junk, junk, junk, junk, junk, junk, junk, junk, junk, junk, junk, junk, junk, junk, junk, junk, junk, junk, junk, junk, junk, junk, junk, junk, junk, junk, junk, junk, junk, junk, junk, junk, junk, junk, junk, junk, junk, junk, junk, junk, junk, junk, junk, junk, junk, junk, junk, junk, junk, junk, junk, junk, junk, junk, junk, junk, junk, junk, junk, junk, junk, junk, junk, junk, junk, junk, junk, junk, junk, junk, junk, junk, junk, junk] M) := by kernel_rfl
theorem QP7_20_eq (L : Rec) (hL : ∀ b K t A, L.loop b K t A = code L b (loopK L b K) t A) (P7_20 : Rec → (Option Addr) → Nat → Nat → Int → Nat → Nat → (Option Addr) → Nat → Int → AMem → Res) (hP7_20 : P7_20 = fun (L : Rec) (x1 : Option Addr) (x1n : Nat) (x1c : Nat) (x2 : Int) (x3 : Nat) (x7 : Nat) (x8 : Option Addr) (x9 : Nat) (x11 : Int) (M : AMem) => L.loop b7_20 (k7_20 L) (s7_20 x1 x1n x1c x2 x3 x7 x8 x9 x11 M) M) (P7_42 : Rec → (Option Addr) → Nat → Nat → Int → Nat → Nat → (Option Addr) → Nat → Int → AMem → Res) (hP7_42 : P7_42 = fun (L : Rec) (x1 : Option Addr) (x1n : Nat) (x1c : Nat) (x2 : Int) (x3 : Nat) (x7 : Nat) (x8 : Option Addr) (x9 : Nat) (x11 : Int) (M : AMem) => code L c7_42 (k7_42 L) (s7_42 x1 x1n x1c x2 x3 x7 x8 x9 x11 M) M) (P7_43 : Rec → Int → Nat → Nat → (Option Addr) → Nat → AMem → Res) (hP7_43 : P7_43 = fun (L : Rec) (x2 : Int) (x3 : Nat) (x7 : Nat) (x8 : Option Addr) (x9 : Nat) (M : AMem) => code L c7_43 (k7_43 L) (s7_43 x2 x3 x7 x8 x9 M) M) (x1 : Option Addr) (x1n : Nat) (x1c : Nat) (x2 : Int) (x3 : Nat) (x7 : Nat) (x8 : Option Addr) (x9 : Nat) (x11 : Int) (M : AMem) : P7_20 L x1 x1n x1c x2 x3 x7 x8 x9 x11 M =
  (if (decide (x11 < (Int.ofNat x1n))) = true
    then (Option.bind (intOf? .i64 (AMem.ld M x7 0)) fun x_1 =>
      (Option.bind (intOf? .i64 (AMem.ld M x7 1)) fun x_2 =>
      (match x1 with
      | some a_3 => (if 0 ≤ x11 ∧ x11 < (Int.ofNat x1n)
        then (Option.bind (intOf? .i64 (AMem.ld M a_3.block ((a_3.off + ((Int.toNat x11) * 3)) + 1))) fun x_4 =>
          (match x1 with
          | some a_5 => (if 0 ≤ x11 ∧ x11 < (Int.ofNat x1n)
            then (Option.bind (intOf? .i64 (AMem.ld M a_5.block ((a_5.off + ((Int.toNat x11) * 3)) + 2))) fun x_6 =>
              (Option.bind (L.call 20 [.agg #[.int .i64 x_1, .int .i64 x_2], .int .i64 x_4, .int .i64 x_6] []) fun r_7 =>
              (Option.bind (intOf? .i64 (some r_7.1)) fun x_8 =>
              (Option.bind (L.call 27 [.pointer x8, .int .i64 x_8] M) fun r_9 =>
              (Option.bind (tupOf? 2 r_9.1) fun cs_10 =>
              (Option.bind (cs_10[0]?) fun u_11 =>
              (Option.bind (intOf? .u64 (some u_11)) fun x_12 =>
              (Option.bind (cs_10[1]?) fun u_13 =>
              (Option.bind (boolOf? (some u_13)) fun q_14 =>
              (Option.bind (L.call 26 [.pointer (some ⟨x9, 0, none⟩), .int .i64 x_8] r_9.2) fun r_15 =>
              (Option.bind (tupOf? 2 r_15.1) fun cs_16 =>
              (Option.bind (cs_16[0]?) fun u_17 =>
              (Option.bind (intOf? .u64 (some u_17)) fun x_18 =>
              (Option.bind (cs_16[1]?) fun u_19 =>
              (Option.bind (boolOf? (some u_19)) fun q_20 =>
              (Option.bind (L.call 28 [.pointer x8, .int .i64 x_8, .int .u64 x_12, .int .u64 (IntKind.wrap .u64 ((IntKind.wrap .u64 (x_12 + (IntKind.wrap .u64 x11))) + 1))] r_15.2) fun r_21 =>
              (Option.bind (boolOf? (some r_21.1)) fun q_22 =>
              (Option.bind (L.call 29 [.pointer (some ⟨x9, 0, none⟩), .int .i64 x_8, .int .u64 x_18, .int .u64 (IntKind.wrap .u64 ((IntKind.wrap .u64 (x_18 + (IntKind.wrap .u64 x11))) + 1))] r_21.2) fun r_23 =>
              (Option.bind (boolOf? (some r_23.1)) fun q_24 =>
              (if (!(q_22 == q_24)) = true
              then some (.bool false, r_23.2)
              else P7_42 L x1 x1n x1c x2 x3 x7 x8 x9 x11 r_23.2))))))))))))))))))))
            else none)
          | none => none))
        else none)
      | none => none)))
    else P7_43 L x2 x3 x7 x8 x9 M) := by
  subst hP7_20; subst hP7_42; subst hP7_43; exact Eq.trans (b := code L b7_20 (loopK L b7_20 (k7_20 L)) (s7_20 x1 x1n x1c x2 x3 x7 x8 x9 x11 M) M) (hL b7_20 (k7_20 L) (s7_20 x1 x1n x1c x2 x3 x7 x8 x9 x11 M) M) (Eq.mp (by kernel_rfl) (G7_20 L b7_20 c7_42 c7_43 x1 x1n x1c x2 x3 x7 x8 x9 x11 M))
theorem P7_20_eq (L : Rec) (hL : ∀ b K t A, L.loop b K t A = code L b (loopK L b K) t A) (x1 : Option Addr) (x1n : Nat) (x1c : Nat) (x2 : Int) (x3 : Nat) (x7 : Nat) (x8 : Option Addr) (x9 : Nat) (x11 : Int) (M : AMem) : P7_20 L x1 x1n x1c x2 x3 x7 x8 x9 x11 M =
  (if (decide (x11 < (Int.ofNat x1n))) = true
    then (Option.bind (intOf? .i64 (AMem.ld M x7 0)) fun x_1 =>
      (Option.bind (intOf? .i64 (AMem.ld M x7 1)) fun x_2 =>
      (match x1 with
      | some a_3 => (if 0 ≤ x11 ∧ x11 < (Int.ofNat x1n)
        then (Option.bind (intOf? .i64 (AMem.ld M a_3.block ((a_3.off + ((Int.toNat x11) * 3)) + 1))) fun x_4 =>
          (match x1 with
          | some a_5 => (if 0 ≤ x11 ∧ x11 < (Int.ofNat x1n)
            then (Option.bind (intOf? .i64 (AMem.ld M a_5.block ((a_5.off + ((Int.toNat x11) * 3)) + 2))) fun x_6 =>
              (Option.bind (L.call 20 [.agg #[.int .i64 x_1, .int .i64 x_2], .int .i64 x_4, .int .i64 x_6] []) fun r_7 =>
              (Option.bind (intOf? .i64 (some r_7.1)) fun x_8 =>
              (Option.bind (L.call 27 [.pointer x8, .int .i64 x_8] M) fun r_9 =>
              (Option.bind (tupOf? 2 r_9.1) fun cs_10 =>
              (Option.bind (cs_10[0]?) fun u_11 =>
              (Option.bind (intOf? .u64 (some u_11)) fun x_12 =>
              (Option.bind (cs_10[1]?) fun u_13 =>
              (Option.bind (boolOf? (some u_13)) fun q_14 =>
              (Option.bind (L.call 26 [.pointer (some ⟨x9, 0, none⟩), .int .i64 x_8] r_9.2) fun r_15 =>
              (Option.bind (tupOf? 2 r_15.1) fun cs_16 =>
              (Option.bind (cs_16[0]?) fun u_17 =>
              (Option.bind (intOf? .u64 (some u_17)) fun x_18 =>
              (Option.bind (cs_16[1]?) fun u_19 =>
              (Option.bind (boolOf? (some u_19)) fun q_20 =>
              (Option.bind (L.call 28 [.pointer x8, .int .i64 x_8, .int .u64 x_12, .int .u64 (IntKind.wrap .u64 ((IntKind.wrap .u64 (x_12 + (IntKind.wrap .u64 x11))) + 1))] r_15.2) fun r_21 =>
              (Option.bind (boolOf? (some r_21.1)) fun q_22 =>
              (Option.bind (L.call 29 [.pointer (some ⟨x9, 0, none⟩), .int .i64 x_8, .int .u64 x_18, .int .u64 (IntKind.wrap .u64 ((IntKind.wrap .u64 (x_18 + (IntKind.wrap .u64 x11))) + 1))] r_21.2) fun r_23 =>
              (Option.bind (boolOf? (some r_23.1)) fun q_24 =>
              (if (!(q_22 == q_24)) = true
              then some (.bool false, r_23.2)
              else P7_42 L x1 x1n x1c x2 x3 x7 x8 x9 x11 r_23.2))))))))))))))))))))
            else none)
          | none => none))
        else none)
      | none => none)))
    else P7_43 L x2 x3 x7 x8 x9 M) := QP7_20_eq L hL P7_20 (Classical.choose_spec XP7_20) P7_42 (Classical.choose_spec XP7_42) P7_43 (Classical.choose_spec XP7_43) x1 x1n x1c x2 x3 x7 x8 x9 x11 M
theorem G7_42 (L : Rec) (b7_20 c7_43 : ACode) (x1 : Option Addr) (x1n : Nat) (x1c : Nat) (x2 : Int) (x3 : Nat) (x7 : Nat) (x8 : Option Addr) (x9 : Nat) (x11 : Int) (M : AMem) : code L (.ops o7_42) (postK [0, 4, 5, 6, 10, 12, 13, 14, 15, 16, 17, 18, 19, 20, 21, 22, 23, 24, 25, 26, 27, 28, 29, 30, 31, 32, 33, 34, 35, 36, 37, 38, 39, 40, 41, 42, 43, 44, 45, 46, 47, 48, 49, 50, 51, 52, 53, 54, 55, 56, 57, 58, 59, 60, 61, 62, 63, 64, 65, 66, 67, 68, 69, 70, 71, 72, 73, 74, 75, 76, 77, 78, 79, 80, 81, 82, 83, 84, 85, 86, 87, 88, 89, 90, 91, 92, 93, 94, 95, 96, 97, 98, 99, 100, 101, 102, 103, 104, 105, 106, 107, 108, 109, 110, 111, 112, 113, 114, 115, 116, 117, 118, 119, 120, 121, 122, 123, 124, 125, 126, 127, 128, 129, 130, 131, 132, 133, 134, 135, 136, 137, 138, 139, 140, 141, 142, 143, 144, 145, 146, 147, 148, 149, 150, 151] (loopK L b7_20 (blockK 0 (seqK (code L (.clear [0, 1, 4, 5, 6, 10, 11, 12, 13, 14, 15, 16, 17, 18, 19, 20, 21, 22, 23, 24, 25, 26, 27, 28, 29, 30, 31, 32, 33, 34, 35, 36, 37, 38, 39, 40, 41, 42, 43, 44, 45, 46, 47, 48, 49, 50, 51, 52, 53, 54, 55, 56, 57, 58, 59, 60, 61, 62, 63, 64, 65, 66, 67, 68, 69, 70, 71, 72, 73, 74, 75, 76, 77, 78, 79, 80, 81, 82, 83, 84, 85, 86, 87, 88, 89, 90, 91, 92, 93, 94, 95, 96, 97, 98, 99, 100, 101, 102, 103, 104, 105, 106, 107, 108, 109, 110, 111, 112, 113, 114, 115, 116, 117, 118, 119, 120, 121, 122, 123, 124, 125, 126, 127, 128, 129, 130, 131, 132, 133, 134, 135, 136, 137, 138, 139, 140, 141, 142, 143, 144, 145, 146, 147, 148, 149, 150, 151] c7_43) (retK [.tmp 6])) (retK [.tmp 6]))))) [junk, .slice x1 x1n x1c, .int .u8 x2, .pointer (some ⟨x3, 0, none⟩), junk, junk, junk, .pointer (some ⟨x7, 0, none⟩), .pointer x8, .pointer (some ⟨x9, 0, none⟩), junk, .int .i64 x11, junk, junk, junk, junk, junk, junk, junk, junk, junk, junk, junk, junk, junk, junk, junk, junk, junk, junk, junk, junk, junk, junk, junk, junk, junk, junk, junk, junk, junk, junk, junk, junk, junk, junk, junk, junk, junk, junk, junk, junk, junk, junk, junk, junk, junk, junk, junk, junk, junk, junk, junk, junk, junk, junk, junk, junk, junk, junk, junk, junk, junk, junk, junk, junk, junk, junk, junk, junk, junk, junk, junk, junk, junk, junk, junk, junk, junk, junk, junk, junk, junk, junk, junk, junk, junk, junk, junk, junk, junk, junk, junk, junk, junk, junk, junk, junk, junk, junk, junk, junk, junk, junk, junk, junk, junk, junk, junk, junk, junk, junk, junk, junk, junk, junk, junk, junk, junk, junk, junk, junk, junk, junk, junk, junk, junk, junk, junk, junk, junk, junk, junk, junk, junk, junk, junk, junk, junk, junk, junk, junk] M =
  L.loop b7_20 (blockK 0 (seqK (code L (.clear [0, 1, 4, 5, 6, 10, 11, 12, 13, 14, 15, 16, 17, 18, 19, 20, 21, 22, 23, 24, 25, 26, 27, 28, 29, 30, 31, 32, 33, 34, 35, 36, 37, 38, 39, 40, 41, 42, 43, 44, 45, 46, 47, 48, 49, 50, 51, 52, 53, 54, 55, 56, 57, 58, 59, 60, 61, 62, 63, 64, 65, 66, 67, 68, 69, 70, 71, 72, 73, 74, 75, 76, 77, 78, 79, 80, 81, 82, 83, 84, 85, 86, 87, 88, 89, 90, 91, 92, 93, 94, 95, 96, 97, 98, 99, 100, 101, 102, 103, 104, 105, 106, 107, 108, 109, 110, 111, 112, 113, 114, 115, 116, 117, 118, 119, 120, 121, 122, 123, 124, 125, 126, 127, 128, 129, 130, 131, 132, 133, 134, 135, 136, 137, 138, 139, 140, 141, 142, 143, 144, 145, 146, 147, 148, 149, 150, 151] c7_43) (retK [.tmp 6])) (retK [.tmp 6]))) [junk, .slice x1 x1n x1c, .int .u8 x2, .pointer (some ⟨x3, 0, none⟩), junk, junk, junk, .pointer (some ⟨x7, 0, none⟩), .pointer x8, .pointer (some ⟨x9, 0, none⟩), junk, .int .i64 (IntKind.wrap .i64 (x11 + 1)), junk, junk, junk, junk, junk, junk, junk, junk, junk, junk, junk, junk, junk, junk, junk, junk, junk, junk, junk, junk, junk, junk, junk, junk, junk, junk, junk, junk, junk, junk, junk, junk, junk, junk, junk, junk, junk, junk, junk, junk, junk, junk, junk, junk, junk, junk, junk, junk, junk, junk, junk, junk, junk, junk, junk, junk, junk, junk, junk, junk, junk, junk, junk, junk, junk, junk, junk, junk, junk, junk, junk, junk, junk, junk, junk, junk, junk, junk, junk, junk, junk, junk, junk, junk, junk, junk, junk, junk, junk, junk, junk, junk, junk, junk, junk, junk, junk, junk, junk, junk, junk, junk, junk, junk, junk, junk, junk, junk, junk, junk, junk, junk, junk, junk, junk, junk, junk, junk, junk, junk, junk, junk, junk, junk, junk, junk, junk, junk, junk, junk, junk, junk, junk, junk, junk, junk, junk, junk, junk, junk] M := by kernel_rfl
theorem QP7_42_eq (L : Rec) (P7_20 : Rec → (Option Addr) → Nat → Nat → Int → Nat → Nat → (Option Addr) → Nat → Int → AMem → Res) (hP7_20 : P7_20 = fun (L : Rec) (x1 : Option Addr) (x1n : Nat) (x1c : Nat) (x2 : Int) (x3 : Nat) (x7 : Nat) (x8 : Option Addr) (x9 : Nat) (x11 : Int) (M : AMem) => L.loop b7_20 (k7_20 L) (s7_20 x1 x1n x1c x2 x3 x7 x8 x9 x11 M) M) (P7_42 : Rec → (Option Addr) → Nat → Nat → Int → Nat → Nat → (Option Addr) → Nat → Int → AMem → Res) (hP7_42 : P7_42 = fun (L : Rec) (x1 : Option Addr) (x1n : Nat) (x1c : Nat) (x2 : Int) (x3 : Nat) (x7 : Nat) (x8 : Option Addr) (x9 : Nat) (x11 : Int) (M : AMem) => code L c7_42 (k7_42 L) (s7_42 x1 x1n x1c x2 x3 x7 x8 x9 x11 M) M) (x1 : Option Addr) (x1n : Nat) (x1c : Nat) (x2 : Int) (x3 : Nat) (x7 : Nat) (x8 : Option Addr) (x9 : Nat) (x11 : Int) (M : AMem) : P7_42 L x1 x1n x1c x2 x3 x7 x8 x9 x11 M =
  P7_20 L x1 x1n x1c x2 x3 x7 x8 x9 (IntKind.wrap .i64 (x11 + 1)) M := by
  subst hP7_20; subst hP7_42; exact Eq.mp (by kernel_rfl) (G7_42 L b7_20 c7_43 x1 x1n x1c x2 x3 x7 x8 x9 x11 M)
theorem P7_42_eq (L : Rec) (x1 : Option Addr) (x1n : Nat) (x1c : Nat) (x2 : Int) (x3 : Nat) (x7 : Nat) (x8 : Option Addr) (x9 : Nat) (x11 : Int) (M : AMem) : P7_42 L x1 x1n x1c x2 x3 x7 x8 x9 x11 M =
  P7_20 L x1 x1n x1c x2 x3 x7 x8 x9 (IntKind.wrap .i64 (x11 + 1)) M := QP7_42_eq L P7_20 (Classical.choose_spec XP7_20) P7_42 (Classical.choose_spec XP7_42) x1 x1n x1c x2 x3 x7 x8 x9 x11 M
theorem G7_43 (L : Rec) (b7_57 c7_74 : ACode) (x2 : Int) (x3 : Nat) (x7 : Nat) (x8 : Option Addr) (x9 : Nat) (M : AMem) : code L (.seq (.draw [] 0 o7_44 [(3, 2)]) (.seq (.seq (.ops o7_47) (.cond (.tmp 113) (.seq (.ops o7_50) (.ret)) (.skip))) (.seq (.seq (.ops o7_55) (.block 2 (.clear [0, 1, 3, 4, 5, 6, 8, 9, 10, 11, 12, 13, 14, 15, 16, 20, 21, 22, 23, 24, 25, 26, 27, 28, 29, 30, 31, 32, 33, 34, 35, 36, 37, 38, 39, 40, 41, 42, 43, 44, 45, 46, 47, 48, 49, 50, 51, 52, 53, 54, 55, 56, 57, 58, 59, 60, 61, 62, 63, 64, 65, 66, 67, 68, 69, 70, 71, 72, 73, 74, 75, 76, 77, 78, 79, 80, 81, 82, 83, 84, 85, 86, 87, 88, 89, 90, 91, 92, 93, 94, 95, 96, 97, 98, 99, 100, 101, 102, 103, 104, 105, 106, 107, 108, 109, 110, 111, 112, 113, 114, 115, 116, 117, 118, 119, 120, 121, 122, 123, 124, 125, 126, 127, 128, 129, 130, 131, 132, 133, 134, 135, 136, 137, 138, 139, 140, 141, 142, 143, 144, 145, 146, 147, 148, 149, 150, 151] (.loop b7_57)))) (.clear [0, 1, 3, 4, 5, 6, 8, 9, 10, 11, 12, 13, 14, 15, 16, 17, 18, 19, 20, 21, 22, 23, 24, 25, 26, 27, 28, 29, 30, 31, 32, 33, 34, 35, 36, 37, 38, 39, 40, 41, 42, 43, 44, 45, 46, 47, 48, 49, 50, 51, 52, 53, 54, 55, 56, 57, 58, 59, 60, 61, 62, 63, 64, 65, 66, 67, 68, 69, 70, 71, 72, 73, 74, 75, 76, 77, 78, 79, 80, 81, 82, 83, 84, 85, 86, 87, 88, 89, 90, 91, 92, 93, 94, 95, 96, 97, 98, 99, 100, 101, 102, 103, 104, 105, 106, 107, 108, 109, 110, 111, 112, 113, 114, 115, 116, 117, 118, 119, 120, 121, 122, 123, 124, 125, 126, 127, 128, 129, 130, 131, 132, 133, 134, 135, 136, 137, 138, 139, 140, 141, 142, 143, 144, 145, 146, 147, 148, 149, 150, 151] c7_74)))) (retK [.tmp 6]) [junk, junk, .int .u8 x2, .pointer (some ⟨x3, 0, none⟩), junk, junk, junk, .pointer (some ⟨x7, 0, none⟩), .pointer x8, .pointer (some ⟨x9, 0, none⟩), junk, junk, junk, junk, junk, junk, junk, junk, junk, junk, junk, junk, junk, junk, junk, junk, junk, junk, junk, junk, junk, junk, junk, junk, junk, junk, junk, junk, junk, junk, junk, junk, junk, junk, junk, junk, junk, junk, junk, junk, junk, junk, junk, junk, junk, junk, junk, junk, junk, junk, junk, junk, junk, junk, junk, junk, junk, junk, junk, junk, junk, junk, junk, junk, junk, junk, junk, junk, junk, junk, junk, junk, junk, junk, junk, junk, junk, junk, junk, junk, junk, junk, junk, junk, junk, junk, junk, junk, junk, junk, junk, junk, junk, junk, junk, junk, junk, junk, junk, junk, junk, junk, junk, junk, junk, junk, junk, junk, junk, junk, junk, junk, junk, junk, junk, junk, junk, junk, junk, junk, junk, junk, junk, junk, junk, junk, junk, junk, junk, junk, junk, junk, junk, junk, junk, junk, junk, junk, junk, junk, junk, junk] M =
  (Option.bind (intOf? .i64 (AMem.ld M x7 0)) fun x_1 =>
    (Option.bind (intOf? .i64 (AMem.ld M x7 1)) fun x_2 =>
    (Option.bind (L.call 37 [.agg #[.int .i64 x_1, .int .i64 x_2], .pointer x8] M) fun r_3 =>
    (Option.bind (sliceOf? (some r_3.1)) fun s_4 =>
    (Option.bind (intOf? .i64 (AMem.ld r_3.2 x3 0)) fun x_5 =>
    (Option.bind (intOf? .i64 (AMem.ld r_3.2 x3 1)) fun x_6 =>
    (Option.bind (L.call 38 [.agg #[.int .i64 x_5, .int .i64 x_6], .pointer (some ⟨x9, 0, none⟩)] r_3.2) fun r_7 =>
    (Option.bind (sliceOf? (some r_7.1)) fun s_8 =>
    (if chkOk [(3, 2)] [(3, x3)] [(2, (M, r_3.2))] = true
    then (if ((Int.ofNat s_4.2.1) != (Int.ofNat s_8.2.1)) = true
      then some (.bool false, r_7.2)
      else (Option.bind (intOf? .i64 (AMem.ld r_7.2 x3 0)) fun x_9 =>
        (if ((Int.ofNat s_4.2.1) != x_9) = true
        then some (.bool false, r_7.2)
        else L.loop b7_57 (blockK 2 (seqK (code L (.clear [0, 1, 3, 4, 5, 6, 8, 9, 10, 11, 12, 13, 14, 15, 16, 17, 18, 19, 20, 21, 22, 23, 24, 25, 26, 27, 28, 29, 30, 31, 32, 33, 34, 35, 36, 37, 38, 39, 40, 41, 42, 43, 44, 45, 46, 47, 48, 49, 50, 51, 52, 53, 54, 55, 56, 57, 58, 59, 60, 61, 62, 63, 64, 65, 66, 67, 68, 69, 70, 71, 72, 73, 74, 75, 76, 77, 78, 79, 80, 81, 82, 83, 84, 85, 86, 87, 88, 89, 90, 91, 92, 93, 94, 95, 96, 97, 98, 99, 100, 101, 102, 103, 104, 105, 106, 107, 108, 109, 110, 111, 112, 113, 114, 115, 116, 117, 118, 119, 120, 121, 122, 123, 124, 125, 126, 127, 128, 129, 130, 131, 132, 133, 134, 135, 136, 137, 138, 139, 140, 141, 142, 143, 144, 145, 146, 147, 148, 149, 150, 151] c7_74) (retK [.tmp 6])) (retK [.tmp 6]))) [junk, junk, .int .u8 x2, junk, junk, junk, junk, .pointer (some ⟨x7, 0, none⟩), junk, junk, junk, junk, junk, junk, junk, junk, junk, .slice s_4.1 s_4.2.1 s_4.2.2, .slice s_8.1 s_8.2.1 s_8.2.2, .int .i64 0, junk, junk, junk, junk, junk, junk, junk, junk, junk, junk, junk, junk, junk, junk, junk, junk, junk, junk, junk, junk, junk, junk, junk, junk, junk, junk, junk, junk, junk, junk, junk, junk, junk, junk, junk, junk, junk, junk, junk, junk, junk, junk, junk, junk, junk, junk, junk, junk, junk, junk, junk, junk, junk, junk, junk, junk, junk, junk, junk, junk, junk, junk, junk, junk, junk, junk, junk, junk, junk, junk, junk, junk, junk, junk, junk, junk, junk, junk, junk, junk, junk, junk, junk, junk, junk, junk, junk, junk, junk, junk, junk, junk, junk, junk, junk, junk, junk, junk, junk, junk, junk, junk, junk, junk, junk, junk, junk, junk, junk, junk, junk, junk, junk, junk, junk, junk, junk, junk, junk, junk, junk, junk, junk, junk, junk, junk, junk, junk, junk, junk, junk, junk] r_7.2)))
    else none))))))))) := by kernel_rfl
theorem QP7_43_eq (L : Rec) (P7_43 : Rec → Int → Nat → Nat → (Option Addr) → Nat → AMem → Res) (hP7_43 : P7_43 = fun (L : Rec) (x2 : Int) (x3 : Nat) (x7 : Nat) (x8 : Option Addr) (x9 : Nat) (M : AMem) => code L c7_43 (k7_43 L) (s7_43 x2 x3 x7 x8 x9 M) M) (P7_57 : Rec → Int → Nat → (Option Addr) → Nat → Nat → (Option Addr) → Nat → Nat → Int → AMem → Res) (hP7_57 : P7_57 = fun (L : Rec) (x2 : Int) (x7 : Nat) (x17 : Option Addr) (x17n : Nat) (x17c : Nat) (x18 : Option Addr) (x18n : Nat) (x18c : Nat) (x19 : Int) (M : AMem) => L.loop b7_57 (k7_57 L) (s7_57 x2 x7 x17 x17n x17c x18 x18n x18c x19 M) M) (x2 : Int) (x3 : Nat) (x7 : Nat) (x8 : Option Addr) (x9 : Nat) (M : AMem) : P7_43 L x2 x3 x7 x8 x9 M =
  (Option.bind (intOf? .i64 (AMem.ld M x7 0)) fun x_1 =>
    (Option.bind (intOf? .i64 (AMem.ld M x7 1)) fun x_2 =>
    (Option.bind (L.call 37 [.agg #[.int .i64 x_1, .int .i64 x_2], .pointer x8] M) fun r_3 =>
    (Option.bind (sliceOf? (some r_3.1)) fun s_4 =>
    (Option.bind (intOf? .i64 (AMem.ld r_3.2 x3 0)) fun x_5 =>
    (Option.bind (intOf? .i64 (AMem.ld r_3.2 x3 1)) fun x_6 =>
    (Option.bind (L.call 38 [.agg #[.int .i64 x_5, .int .i64 x_6], .pointer (some ⟨x9, 0, none⟩)] r_3.2) fun r_7 =>
    (Option.bind (sliceOf? (some r_7.1)) fun s_8 =>
    (if chkOk [(3, 2)] [(3, x3)] [(2, (M, r_3.2))] = true
    then (if ((Int.ofNat s_4.2.1) != (Int.ofNat s_8.2.1)) = true
      then some (.bool false, r_7.2)
      else (Option.bind (intOf? .i64 (AMem.ld r_7.2 x3 0)) fun x_9 =>
        (if ((Int.ofNat s_4.2.1) != x_9) = true
        then some (.bool false, r_7.2)
        else P7_57 L x2 x7 s_4.1 s_4.2.1 s_4.2.2 s_8.1 s_8.2.1 s_8.2.2 0 r_7.2)))
    else none))))))))) := by
  subst hP7_43; subst hP7_57; exact Eq.mp (by kernel_rfl) (G7_43 L b7_57 c7_74 x2 x3 x7 x8 x9 M)
theorem P7_43_eq (L : Rec) (x2 : Int) (x3 : Nat) (x7 : Nat) (x8 : Option Addr) (x9 : Nat) (M : AMem) : P7_43 L x2 x3 x7 x8 x9 M =
  (Option.bind (intOf? .i64 (AMem.ld M x7 0)) fun x_1 =>
    (Option.bind (intOf? .i64 (AMem.ld M x7 1)) fun x_2 =>
    (Option.bind (L.call 37 [.agg #[.int .i64 x_1, .int .i64 x_2], .pointer x8] M) fun r_3 =>
    (Option.bind (sliceOf? (some r_3.1)) fun s_4 =>
    (Option.bind (intOf? .i64 (AMem.ld r_3.2 x3 0)) fun x_5 =>
    (Option.bind (intOf? .i64 (AMem.ld r_3.2 x3 1)) fun x_6 =>
    (Option.bind (L.call 38 [.agg #[.int .i64 x_5, .int .i64 x_6], .pointer (some ⟨x9, 0, none⟩)] r_3.2) fun r_7 =>
    (Option.bind (sliceOf? (some r_7.1)) fun s_8 =>
    (if chkOk [(3, 2)] [(3, x3)] [(2, (M, r_3.2))] = true
    then (if ((Int.ofNat s_4.2.1) != (Int.ofNat s_8.2.1)) = true
      then some (.bool false, r_7.2)
      else (Option.bind (intOf? .i64 (AMem.ld r_7.2 x3 0)) fun x_9 =>
        (if ((Int.ofNat s_4.2.1) != x_9) = true
        then some (.bool false, r_7.2)
        else P7_57 L x2 x7 s_4.1 s_4.2.1 s_4.2.2 s_8.1 s_8.2.1 s_8.2.2 0 r_7.2)))
    else none))))))))) := QP7_43_eq L P7_43 (Classical.choose_spec XP7_43) P7_57 (Classical.choose_spec XP7_57) x2 x3 x7 x8 x9 M
theorem G7_57 (L : Rec) (b7_57 c7_73 c7_74 : ACode) (x2 : Int) (x7 : Nat) (x17 : Option Addr) (x17n : Nat) (x17c : Nat) (x18 : Option Addr) (x18n : Nat) (x18c : Nat) (x19 : Int) (M : AMem) : code L (.post (.seq (.seq (.ops o7_60) (.cond (.tmp 117) (.skip) (.exit 2))) (.seq (.block 3 (.seq (.draw [] 0 o7_67 []) (.cond (.tmp 128) (.seq (.ops o7_70) (.ret)) (.skip)))) (.clear [0, 1, 3, 4, 5, 6, 8, 9, 10, 11, 12, 13, 14, 15, 16, 20, 21, 22, 23, 24, 25, 26, 27, 28, 29, 30, 31, 32, 33, 34, 35, 36, 37, 38, 39, 40, 41, 42, 43, 44, 45, 46, 47, 48, 49, 50, 51, 52, 53, 54, 55, 56, 57, 58, 59, 60, 61, 62, 63, 64, 65, 66, 67, 68, 69, 70, 71, 72, 73, 74, 75, 76, 77, 78, 79, 80, 81, 82, 83, 84, 85, 86, 87, 88, 89, 90, 91, 92, 93, 94, 95, 96, 97, 98, 99, 100, 101, 102, 103, 104, 105, 106, 107, 108, 109, 110, 111, 112, 113, 114, 115, 116, 117, 118, 119, 120, 121, 122, 123, 124, 125, 126, 127, 128, 129, 130, 131, 132, 133, 134, 135, 136, 137, 138, 139, 140, 141, 142, 143, 144, 145, 146, 147, 148, 149, 150, 151] c7_73))) [0, 1, 3, 4, 5, 6, 8, 9, 10, 11, 12, 13, 14, 15, 16, 20, 21, 22, 23, 24, 25, 26, 27, 28, 29, 30, 31, 32, 33, 34, 35, 36, 37, 38, 39, 40, 41, 42, 43, 44, 45, 46, 47, 48, 49, 50, 51, 52, 53, 54, 55, 56, 57, 58, 59, 60, 61, 62, 63, 64, 65, 66, 67, 68, 69, 70, 71, 72, 73, 74, 75, 76, 77, 78, 79, 80, 81, 82, 83, 84, 85, 86, 87, 88, 89, 90, 91, 92, 93, 94, 95, 96, 97, 98, 99, 100, 101, 102, 103, 104, 105, 106, 107, 108, 109, 110, 111, 112, 113, 114, 115, 116, 117, 118, 119, 120, 121, 122, 123, 124, 125, 126, 127, 128, 129, 130, 131, 132, 133, 134, 135, 136, 137, 138, 139, 140, 141, 142, 143, 144, 145, 146, 147, 148, 149, 150, 151]) (loopK L b7_57 (blockK 2 (seqK (code L (.clear [0, 1, 3, 4, 5, 6, 8, 9, 10, 11, 12, 13, 14, 15, 16, 17, 18, 19, 20, 21, 22, 23, 24, 25, 26, 27, 28, 29, 30, 31, 32, 33, 34, 35, 36, 37, 38, 39, 40, 41, 42, 43, 44, 45, 46, 47, 48, 49, 50, 51, 52, 53, 54, 55, 56, 57, 58, 59, 60, 61, 62, 63, 64, 65, 66, 67, 68, 69, 70, 71, 72, 73, 74, 75, 76, 77, 78, 79, 80, 81, 82, 83, 84, 85, 86, 87, 88, 89, 90, 91, 92, 93, 94, 95, 96, 97, 98, 99, 100, 101, 102, 103, 104, 105, 106, 107, 108, 109, 110, 111, 112, 113, 114, 115, 116, 117, 118, 119, 120, 121, 122, 123, 124, 125, 126, 127, 128, 129, 130, 131, 132, 133, 134, 135, 136, 137, 138, 139, 140, 141, 142, 143, 144, 145, 146, 147, 148, 149, 150, 151] c7_74) (retK [.tmp 6])) (retK [.tmp 6])))) [junk, junk, .int .u8 x2, junk, junk, junk, junk, .pointer (some ⟨x7, 0, none⟩), junk, junk, junk, junk, junk, junk, junk, junk, junk, .slice x17 x17n x17c, .slice x18 x18n x18c, .int .i64 x19, junk, junk, junk, junk, junk, junk, junk, junk, junk, junk, junk, junk, junk, junk, junk, junk, junk, junk, junk, junk, junk, junk, junk, junk, junk, junk, junk, junk, junk, junk, junk, junk, junk, junk, junk, junk, junk, junk, junk, junk, junk, junk, junk, junk, junk, junk, junk, junk, junk, junk, junk, junk, junk, junk, junk, junk, junk, junk, junk, junk, junk, junk, junk, junk, junk, junk, junk, junk, junk, junk, junk, junk, junk, junk, junk, junk, junk, junk, junk, junk, junk, junk, junk, junk, junk, junk, junk, junk, junk, junk, junk, junk, junk, junk, junk, junk, junk, junk, junk, junk, junk, junk, junk, junk, junk, junk, junk, junk, junk, junk, junk, junk, junk, junk, junk, junk, junk, junk, junk, junk, junk, junk, junk, junk, junk, junk, junk, junk, junk, junk, junk, junk] M =
  (if (decide (x19 < (Int.ofNat x17n))) = true
    then (match x17 with
      | some a_1 => (if 0 ≤ x19 ∧ x19 < (Int.ofNat x17n)
        then (Option.bind (intOf? .u64 (AMem.ld M a_1.block (a_1.off + ((Int.toNat x19) * 3)))) fun x_2 =>
          (Option.bind (intOf? .u64 (AMem.ld M a_1.block ((a_1.off + ((Int.toNat x19) * 3)) + 1))) fun x_3 =>
          (Option.bind (intOf? .u64 (AMem.ld M a_1.block ((a_1.off + ((Int.toNat x19) * 3)) + 2))) fun x_4 =>
          (match x18 with
          | some a_5 => (if 0 ≤ x19 ∧ x19 < (Int.ofNat x18n)
            then (Option.bind (intOf? .u64 (AMem.ld M a_5.block (a_5.off + ((Int.toNat x19) * 3)))) fun x_6 =>
              (Option.bind (intOf? .u64 (AMem.ld M a_5.block ((a_5.off + ((Int.toNat x19) * 3)) + 1))) fun x_7 =>
              (Option.bind (intOf? .u64 (AMem.ld M a_5.block ((a_5.off + ((Int.toNat x19) * 3)) + 2))) fun x_8 =>
              (if (!((x_2 == x_6) && ((x_3 == x_7) && (x_4 == x_8)))) = true
              then some (.bool false, M)
              else code L c7_73 (postK [0, 1, 3, 4, 5, 6, 8, 9, 10, 11, 12, 13, 14, 15, 16, 20, 21, 22, 23, 24, 25, 26, 27, 28, 29, 30, 31, 32, 33, 34, 35, 36, 37, 38, 39, 40, 41, 42, 43, 44, 45, 46, 47, 48, 49, 50, 51, 52, 53, 54, 55, 56, 57, 58, 59, 60, 61, 62, 63, 64, 65, 66, 67, 68, 69, 70, 71, 72, 73, 74, 75, 76, 77, 78, 79, 80, 81, 82, 83, 84, 85, 86, 87, 88, 89, 90, 91, 92, 93, 94, 95, 96, 97, 98, 99, 100, 101, 102, 103, 104, 105, 106, 107, 108, 109, 110, 111, 112, 113, 114, 115, 116, 117, 118, 119, 120, 121, 122, 123, 124, 125, 126, 127, 128, 129, 130, 131, 132, 133, 134, 135, 136, 137, 138, 139, 140, 141, 142, 143, 144, 145, 146, 147, 148, 149, 150, 151] (loopK L b7_57 (blockK 2 (seqK (code L (.clear [0, 1, 3, 4, 5, 6, 8, 9, 10, 11, 12, 13, 14, 15, 16, 17, 18, 19, 20, 21, 22, 23, 24, 25, 26, 27, 28, 29, 30, 31, 32, 33, 34, 35, 36, 37, 38, 39, 40, 41, 42, 43, 44, 45, 46, 47, 48, 49, 50, 51, 52, 53, 54, 55, 56, 57, 58, 59, 60, 61, 62, 63, 64, 65, 66, 67, 68, 69, 70, 71, 72, 73, 74, 75, 76, 77, 78, 79, 80, 81, 82, 83, 84, 85, 86, 87, 88, 89, 90, 91, 92, 93, 94, 95, 96, 97, 98, 99, 100, 101, 102, 103, 104, 105, 106, 107, 108, 109, 110, 111, 112, 113, 114, 115, 116, 117, 118, 119, 120, 121, 122, 123, 124, 125, 126, 127, 128, 129, 130, 131, 132, 133, 134, 135, 136, 137, 138, 139, 140, 141, 142, 143, 144, 145, 146, 147, 148, 149, 150, 151] c7_74) (retK [.tmp 6])) (retK [.tmp 6]))))) [junk, junk, .int .u8 x2, junk, junk, junk, junk, .pointer (some ⟨x7, 0, none⟩), junk, junk, junk, junk, junk, junk, junk, junk, junk, .slice x17 x17n x17c, .slice x18 x18n x18c, .int .i64 x19, junk, junk, junk, junk, junk, junk, junk, junk, junk, junk, junk, junk, junk, junk, junk, junk, junk, junk, junk, junk, junk, junk, junk, junk, junk, junk, junk, junk, junk, junk, junk, junk, junk, junk, junk, junk, junk, junk, junk, junk, junk, junk, junk, junk, junk, junk, junk, junk, junk, junk, junk, junk, junk, junk, junk, junk, junk, junk, junk, junk, junk, junk, junk, junk, junk, junk, junk, junk, junk, junk, junk, junk, junk, junk, junk, junk, junk, junk, junk, junk, junk, junk, junk, junk, junk, junk, junk, junk, junk, junk, junk, junk, junk, junk, junk, junk, junk, junk, junk, junk, junk, junk, junk, junk, junk, junk, junk, junk, junk, junk, junk, junk, junk, junk, junk, junk, junk, junk, junk, junk, junk, junk, junk, junk, junk, junk, junk, junk, junk, junk, junk, junk] M))))
            else none)
          | none => none))))
        else none)
      | none => none)
    else code L c7_74 (retK [.tmp 6]) [junk, junk, .int .u8 x2, junk, junk, junk, junk, .pointer (some ⟨x7, 0, none⟩), junk, junk, junk, junk, junk, junk, junk, junk, junk, junk, junk, junk, junk, junk, junk, junk, junk, junk, junk, junk, junk, junk, junk, junk, junk, junk, junk, junk, junk, junk, junk, junk, junk, junk, junk, junk, junk, junk, junk, junk, junk, junk, junk, junk, junk, junk, junk, junk, junk, junk, junk, junk, junk, junk, junk, junk, junk, junk, junk, junk, junk, junk, junk, junk, junk, junk, junk, junk, junk, junk, junk, junk, junk, junk, junk, junk, junk, junk, junk, junk, junk, junk, junk, junk, junk, junk, junk, junk, junk, junk, junk, junk, junk, junk, junk, junk, junk, junk, junk, junk, junk, junk, junk, junk, junk, junk, junk, junk, junk, junk, junk, junk, junk, junk, junk, junk, junk, junk, junk, junk, junk, junk, junk, junk, junk, junk, junk, junk, junk, junk, junk, junk, junk, junk, junk, junk, junk, junk, junk, junk, junk, junk, junk, junk] M) := by kernel_rfl
theorem QP7_57_eq (L : Rec) (hL : ∀ b K t A, L.loop b K t A = code L b (loopK L b K) t A) (P7_57 : Rec → Int → Nat → (Option Addr) → Nat → Nat → (Option Addr) → Nat → Nat → Int → AMem → Res) (hP7_57 : P7_57 = fun (L : Rec) (x2 : Int) (x7 : Nat) (x17 : Option Addr) (x17n : Nat) (x17c : Nat) (x18 : Option Addr) (x18n : Nat) (x18c : Nat) (x19 : Int) (M : AMem) => L.loop b7_57 (k7_57 L) (s7_57 x2 x7 x17 x17n x17c x18 x18n x18c x19 M) M) (P7_73 : Rec → Int → Nat → (Option Addr) → Nat → Nat → (Option Addr) → Nat → Nat → Int → AMem → Res) (hP7_73 : P7_73 = fun (L : Rec) (x2 : Int) (x7 : Nat) (x17 : Option Addr) (x17n : Nat) (x17c : Nat) (x18 : Option Addr) (x18n : Nat) (x18c : Nat) (x19 : Int) (M : AMem) => code L c7_73 (k7_73 L) (s7_73 x2 x7 x17 x17n x17c x18 x18n x18c x19 M) M) (P7_74 : Rec → Int → Nat → AMem → Res) (hP7_74 : P7_74 = fun (L : Rec) (x2 : Int) (x7 : Nat) (M : AMem) => code L c7_74 (k7_74 L) (s7_74 x2 x7 M) M) (x2 : Int) (x7 : Nat) (x17 : Option Addr) (x17n : Nat) (x17c : Nat) (x18 : Option Addr) (x18n : Nat) (x18c : Nat) (x19 : Int) (M : AMem) : P7_57 L x2 x7 x17 x17n x17c x18 x18n x18c x19 M =
  (if (decide (x19 < (Int.ofNat x17n))) = true
    then (match x17 with
      | some a_1 => (if 0 ≤ x19 ∧ x19 < (Int.ofNat x17n)
        then (Option.bind (intOf? .u64 (AMem.ld M a_1.block (a_1.off + ((Int.toNat x19) * 3)))) fun x_2 =>
          (Option.bind (intOf? .u64 (AMem.ld M a_1.block ((a_1.off + ((Int.toNat x19) * 3)) + 1))) fun x_3 =>
          (Option.bind (intOf? .u64 (AMem.ld M a_1.block ((a_1.off + ((Int.toNat x19) * 3)) + 2))) fun x_4 =>
          (match x18 with
          | some a_5 => (if 0 ≤ x19 ∧ x19 < (Int.ofNat x18n)
            then (Option.bind (intOf? .u64 (AMem.ld M a_5.block (a_5.off + ((Int.toNat x19) * 3)))) fun x_6 =>
              (Option.bind (intOf? .u64 (AMem.ld M a_5.block ((a_5.off + ((Int.toNat x19) * 3)) + 1))) fun x_7 =>
              (Option.bind (intOf? .u64 (AMem.ld M a_5.block ((a_5.off + ((Int.toNat x19) * 3)) + 2))) fun x_8 =>
              (if (!((x_2 == x_6) && ((x_3 == x_7) && (x_4 == x_8)))) = true
              then some (.bool false, M)
              else P7_73 L x2 x7 x17 x17n x17c x18 x18n x18c x19 M))))
            else none)
          | none => none))))
        else none)
      | none => none)
    else P7_74 L x2 x7 M) := by
  subst hP7_57; subst hP7_73; subst hP7_74; exact Eq.trans (b := code L b7_57 (loopK L b7_57 (k7_57 L)) (s7_57 x2 x7 x17 x17n x17c x18 x18n x18c x19 M) M) (hL b7_57 (k7_57 L) (s7_57 x2 x7 x17 x17n x17c x18 x18n x18c x19 M) M) (Eq.mp (by kernel_rfl) (G7_57 L b7_57 c7_73 c7_74 x2 x7 x17 x17n x17c x18 x18n x18c x19 M))
theorem P7_57_eq (L : Rec) (hL : ∀ b K t A, L.loop b K t A = code L b (loopK L b K) t A) (x2 : Int) (x7 : Nat) (x17 : Option Addr) (x17n : Nat) (x17c : Nat) (x18 : Option Addr) (x18n : Nat) (x18c : Nat) (x19 : Int) (M : AMem) : P7_57 L x2 x7 x17 x17n x17c x18 x18n x18c x19 M =
  (if (decide (x19 < (Int.ofNat x17n))) = true
    then (match x17 with
      | some a_1 => (if 0 ≤ x19 ∧ x19 < (Int.ofNat x17n)
        then (Option.bind (intOf? .u64 (AMem.ld M a_1.block (a_1.off + ((Int.toNat x19) * 3)))) fun x_2 =>
          (Option.bind (intOf? .u64 (AMem.ld M a_1.block ((a_1.off + ((Int.toNat x19) * 3)) + 1))) fun x_3 =>
          (Option.bind (intOf? .u64 (AMem.ld M a_1.block ((a_1.off + ((Int.toNat x19) * 3)) + 2))) fun x_4 =>
          (match x18 with
          | some a_5 => (if 0 ≤ x19 ∧ x19 < (Int.ofNat x18n)
            then (Option.bind (intOf? .u64 (AMem.ld M a_5.block (a_5.off + ((Int.toNat x19) * 3)))) fun x_6 =>
              (Option.bind (intOf? .u64 (AMem.ld M a_5.block ((a_5.off + ((Int.toNat x19) * 3)) + 1))) fun x_7 =>
              (Option.bind (intOf? .u64 (AMem.ld M a_5.block ((a_5.off + ((Int.toNat x19) * 3)) + 2))) fun x_8 =>
              (if (!((x_2 == x_6) && ((x_3 == x_7) && (x_4 == x_8)))) = true
              then some (.bool false, M)
              else P7_73 L x2 x7 x17 x17n x17c x18 x18n x18c x19 M))))
            else none)
          | none => none))))
        else none)
      | none => none)
    else P7_74 L x2 x7 M) := QP7_57_eq L hL P7_57 (Classical.choose_spec XP7_57) P7_73 (Classical.choose_spec XP7_73) P7_74 (Classical.choose_spec XP7_74) x2 x7 x17 x17n x17c x18 x18n x18c x19 M
theorem G7_73 (L : Rec) (b7_57 c7_74 : ACode) (x2 : Int) (x7 : Nat) (x17 : Option Addr) (x17n : Nat) (x17c : Nat) (x18 : Option Addr) (x18n : Nat) (x18c : Nat) (x19 : Int) (M : AMem) : code L (.ops o7_73) (postK [0, 1, 3, 4, 5, 6, 8, 9, 10, 11, 12, 13, 14, 15, 16, 20, 21, 22, 23, 24, 25, 26, 27, 28, 29, 30, 31, 32, 33, 34, 35, 36, 37, 38, 39, 40, 41, 42, 43, 44, 45, 46, 47, 48, 49, 50, 51, 52, 53, 54, 55, 56, 57, 58, 59, 60, 61, 62, 63, 64, 65, 66, 67, 68, 69, 70, 71, 72, 73, 74, 75, 76, 77, 78, 79, 80, 81, 82, 83, 84, 85, 86, 87, 88, 89, 90, 91, 92, 93, 94, 95, 96, 97, 98, 99, 100, 101, 102, 103, 104, 105, 106, 107, 108, 109, 110, 111, 112, 113, 114, 115, 116, 117, 118, 119, 120, 121, 122, 123, 124, 125, 126, 127, 128, 129, 130, 131, 132, 133, 134, 135, 136, 137, 138, 139, 140, 141, 142, 143, 144, 145, 146, 147, 148, 149, 150, 151] (loopK L b7_57 (blockK 2 (seqK (code L (.clear [0, 1, 3, 4, 5, 6, 8, 9, 10, 11, 12, 13, 14, 15, 16, 17, 18, 19, 20, 21, 22, 23, 24, 25, 26, 27, 28, 29, 30, 31, 32, 33, 34, 35, 36, 37, 38, 39, 40, 41, 42, 43, 44, 45, 46, 47, 48, 49, 50, 51, 52, 53, 54, 55, 56, 57, 58, 59, 60, 61, 62, 63, 64, 65, 66, 67, 68, 69, 70, 71, 72, 73, 74, 75, 76, 77, 78, 79, 80, 81, 82, 83, 84, 85, 86, 87, 88, 89, 90, 91, 92, 93, 94, 95, 96, 97, 98, 99, 100, 101, 102, 103, 104, 105, 106, 107, 108, 109, 110, 111, 112, 113, 114, 115, 116, 117, 118, 119, 120, 121, 122, 123, 124, 125, 126, 127, 128, 129, 130, 131, 132, 133, 134, 135, 136, 137, 138, 139, 140, 141, 142, 143, 144, 145, 146, 147, 148, 149, 150, 151] c7_74) (retK [.tmp 6])) (retK [.tmp 6]))))) [junk, junk, .int .u8 x2, junk, junk, junk, junk, .pointer (some ⟨x7, 0, none⟩), junk, junk, junk, junk, junk, junk, junk, junk, junk, .slice x17 x17n x17c, .slice x18 x18n x18c, .int .i64 x19, junk, junk, junk, junk, junk, junk, junk, junk, junk, junk, junk, junk, junk, junk, junk, junk, junk, junk, junk, junk, junk, junk, junk, junk, junk, junk, junk, junk, junk, junk, junk, junk, junk, junk, junk, junk, junk, junk, junk, junk, junk, junk, junk, junk, junk, junk, junk, junk, junk, junk, junk, junk, junk, junk, junk, junk, junk, junk, junk, junk, junk, junk, junk, junk, junk, junk, junk, junk, junk, junk, junk, junk, junk, junk, junk, junk, junk, junk, junk, junk, junk, junk, junk, junk, junk, junk, junk, junk, junk, junk, junk, junk, junk, junk, junk, junk, junk, junk, junk, junk, junk, junk, junk, junk, junk, junk, junk, junk, junk, junk, junk, junk, junk, junk, junk, junk, junk, junk, junk, junk, junk, junk, junk, junk, junk, junk, junk, junk, junk, junk, junk, junk] M =
  L.loop b7_57 (blockK 2 (seqK (code L (.clear [0, 1, 3, 4, 5, 6, 8, 9, 10, 11, 12, 13, 14, 15, 16, 17, 18, 19, 20, 21, 22, 23, 24, 25, 26, 27, 28, 29, 30, 31, 32, 33, 34, 35, 36, 37, 38, 39, 40, 41, 42, 43, 44, 45, 46, 47, 48, 49, 50, 51, 52, 53, 54, 55, 56, 57, 58, 59, 60, 61, 62, 63, 64, 65, 66, 67, 68, 69, 70, 71, 72, 73, 74, 75, 76, 77, 78, 79, 80, 81, 82, 83, 84, 85, 86, 87, 88, 89, 90, 91, 92, 93, 94, 95, 96, 97, 98, 99, 100, 101, 102, 103, 104, 105, 106, 107, 108, 109, 110, 111, 112, 113, 114, 115, 116, 117, 118, 119, 120, 121, 122, 123, 124, 125, 126, 127, 128, 129, 130, 131, 132, 133, 134, 135, 136, 137, 138, 139, 140, 141, 142, 143, 144, 145, 146, 147, 148, 149, 150, 151] c7_74) (retK [.tmp 6])) (retK [.tmp 6]))) [junk, junk, .int .u8 x2, junk, junk, junk, junk, .pointer (some ⟨x7, 0, none⟩), junk, junk, junk, junk, junk, junk, junk, junk, junk, .slice x17 x17n x17c, .slice x18 x18n x18c, .int .i64 (IntKind.wrap .i64 (x19 + 1)), junk, junk, junk, junk, junk, junk, junk, junk, junk, junk, junk, junk, junk, junk, junk, junk, junk, junk, junk, junk, junk, junk, junk, junk, junk, junk, junk, junk, junk, junk, junk, junk, junk, junk, junk, junk, junk, junk, junk, junk, junk, junk, junk, junk, junk, junk, junk, junk, junk, junk, junk, junk, junk, junk, junk, junk, junk, junk, junk, junk, junk, junk, junk, junk, junk, junk, junk, junk, junk, junk, junk, junk, junk, junk, junk, junk, junk, junk, junk, junk, junk, junk, junk, junk, junk, junk, junk, junk, junk, junk, junk, junk, junk, junk, junk, junk, junk, junk, junk, junk, junk, junk, junk, junk, junk, junk, junk, junk, junk, junk, junk, junk, junk, junk, junk, junk, junk, junk, junk, junk, junk, junk, junk, junk, junk, junk, junk, junk, junk, junk, junk, junk] M := by kernel_rfl
theorem QP7_73_eq (L : Rec) (P7_57 : Rec → Int → Nat → (Option Addr) → Nat → Nat → (Option Addr) → Nat → Nat → Int → AMem → Res) (hP7_57 : P7_57 = fun (L : Rec) (x2 : Int) (x7 : Nat) (x17 : Option Addr) (x17n : Nat) (x17c : Nat) (x18 : Option Addr) (x18n : Nat) (x18c : Nat) (x19 : Int) (M : AMem) => L.loop b7_57 (k7_57 L) (s7_57 x2 x7 x17 x17n x17c x18 x18n x18c x19 M) M) (P7_73 : Rec → Int → Nat → (Option Addr) → Nat → Nat → (Option Addr) → Nat → Nat → Int → AMem → Res) (hP7_73 : P7_73 = fun (L : Rec) (x2 : Int) (x7 : Nat) (x17 : Option Addr) (x17n : Nat) (x17c : Nat) (x18 : Option Addr) (x18n : Nat) (x18c : Nat) (x19 : Int) (M : AMem) => code L c7_73 (k7_73 L) (s7_73 x2 x7 x17 x17n x17c x18 x18n x18c x19 M) M) (x2 : Int) (x7 : Nat) (x17 : Option Addr) (x17n : Nat) (x17c : Nat) (x18 : Option Addr) (x18n : Nat) (x18c : Nat) (x19 : Int) (M : AMem) : P7_73 L x2 x7 x17 x17n x17c x18 x18n x18c x19 M =
  P7_57 L x2 x7 x17 x17n x17c x18 x18n x18c (IntKind.wrap .i64 (x19 + 1)) M := by
  subst hP7_57; subst hP7_73; exact Eq.mp (by kernel_rfl) (G7_73 L b7_57 c7_74 x2 x7 x17 x17n x17c x18 x18n x18c x19 M)
theorem P7_73_eq (L : Rec) (x2 : Int) (x7 : Nat) (x17 : Option Addr) (x17n : Nat) (x17c : Nat) (x18 : Option Addr) (x18n : Nat) (x18c : Nat) (x19 : Int) (M : AMem) : P7_73 L x2 x7 x17 x17n x17c x18 x18n x18c x19 M =
  P7_57 L x2 x7 x17 x17n x17c x18 x18n x18c (IntKind.wrap .i64 (x19 + 1)) M := QP7_73_eq L P7_57 (Classical.choose_spec XP7_57) P7_73 (Classical.choose_spec XP7_73) x2 x7 x17 x17n x17c x18 x18n x18c x19 M
theorem G7_74 (L : Rec) (x2 : Int) (x7 : Nat) (M : AMem) : code L (.seq (.draw [] 0 o7_75 [(6, 9)]) (.ret)) (retK [.tmp 6]) [junk, junk, .int .u8 x2, junk, junk, junk, junk, .pointer (some ⟨x7, 0, none⟩), junk, junk, junk, junk, junk, junk, junk, junk, junk, junk, junk, junk, junk, junk, junk, junk, junk, junk, junk, junk, junk, junk, junk, junk, junk, junk, junk, junk, junk, junk, junk, junk, junk, junk, junk, junk, junk, junk, junk, junk, junk, junk, junk, junk, junk, junk, junk, junk, junk, junk, junk, junk, junk, junk, junk, junk, junk, junk, junk, junk, junk, junk, junk, junk, junk, junk, junk, junk, junk, junk, junk, junk, junk, junk, junk, junk, junk, junk, junk, junk, junk, junk, junk, junk, junk, junk, junk, junk, junk, junk, junk, junk, junk, junk, junk, junk, junk, junk, junk, junk, junk, junk, junk, junk, junk, junk, junk, junk, junk, junk, junk, junk, junk, junk, junk, junk, junk, junk, junk, junk, junk, junk, junk, junk, junk, junk, junk, junk, junk, junk, junk, junk, junk, junk, junk, junk, junk, junk, junk, junk, junk, junk, junk, junk] M =
  (Option.bind (intOf? .i64 (AMem.ld M x7 0)) fun x_1 =>
    (Option.bind (intOf? .i64 (AMem.ld M x7 1)) fun x_2 =>
    (Option.bind (L.call 16 [.agg #[.int .i64 x_1, .int .i64 x_2]] []) fun r_3 =>
    (Option.bind (intOf? .i64 (some r_3.1)) fun x_4 =>
    (if ((IntKind.wrap .i64 x2) == x_4) = true
    then (Option.bind (intOf? .i64 (AMem.ld M x7 0)) fun x_5 =>
      (Option.bind (intOf? .i64 (AMem.ld M x7 1)) fun x_6 =>
      (Option.bind (L.call 37 [.agg #[.int .i64 x_5, .int .i64 x_6], .pointer none] M) fun r_7 =>
      (Option.bind (sliceOf? (some r_7.1)) fun s_8 =>
      (if ((Int.ofNat s_8.2.1) == 0) = true
      then (Option.bind (L.call 13 [] []) fun r_9 =>
        (Option.bind (boolOf? (some r_9.1)) fun q_10 =>
        (if chkOk [(6, 9)] [(6, x7)] [(9, (M, M))] = true
        then some (.bool q_10, r_7.2)
        else none)))
      else (if chkOk [(6, 9)] [(6, x7)] [(9, (M, M))] = true
        then some (.bool false, r_7.2)
        else none))))))
    else (Option.bind (intOf? .i64 (AMem.ld M x7 0)) fun x_11 =>
      (Option.bind (intOf? .i64 (AMem.ld M x7 1)) fun x_12 =>
      (Option.bind (L.call 24 [.int .i64 (IntKind.wrap .i64 x2)] M) fun r_13 =>
      (Option.bind (ptrOf? (some r_13.1)) fun p_14 =>
      (Option.bind (L.call 37 [.agg #[.int .i64 x_11, .int .i64 x_12], .pointer p_14] r_13.2) fun r_15 =>
      (Option.bind (sliceOf? (some r_15.1)) fun s_16 =>
      (if ((Int.ofNat s_16.2.1) == 0) = true
      then (Option.bind (intOf? .i64 (AMem.ld r_15.2 x7 0)) fun x_17 =>
        (Option.bind (intOf? .i64 (AMem.ld r_15.2 x7 1)) fun x_18 =>
        (Option.bind (L.call 37 [.agg #[.int .i64 x_17, .int .i64 x_18], .pointer none] r_15.2) fun r_19 =>
        (Option.bind (sliceOf? (some r_19.1)) fun s_20 =>
        (if ((Int.ofNat s_20.2.1) == 0) = true
        then (Option.bind (L.call 13 [] []) fun r_21 =>
          (Option.bind (boolOf? (some r_21.1)) fun q_22 =>
          (if chkOk [(6, 9)] [(6, x7)] [(9, (M, r_13.2))] = true
          then some (.bool q_22, r_19.2)
          else none)))
        else (if chkOk [(6, 9)] [(6, x7)] [(9, (M, r_13.2))] = true
          then some (.bool false, r_19.2)
          else none))))))
      else (if chkOk [(6, 9)] [(6, x7)] [(9, (M, r_13.2))] = true
        then some (.bool false, r_15.2)
        else none))))))))))))) := by kernel_rfl
theorem QP7_74_eq (L : Rec) (P7_74 : Rec → Int → Nat → AMem → Res) (hP7_74 : P7_74 = fun (L : Rec) (x2 : Int) (x7 : Nat) (M : AMem) => code L c7_74 (k7_74 L) (s7_74 x2 x7 M) M) (x2 : Int) (x7 : Nat) (M : AMem) : P7_74 L x2 x7 M =
  (Option.bind (intOf? .i64 (AMem.ld M x7 0)) fun x_1 =>
    (Option.bind (intOf? .i64 (AMem.ld M x7 1)) fun x_2 =>
    (Option.bind (L.call 16 [.agg #[.int .i64 x_1, .int .i64 x_2]] []) fun r_3 =>
    (Option.bind (intOf? .i64 (some r_3.1)) fun x_4 =>
    (if ((IntKind.wrap .i64 x2) == x_4) = true
    then (Option.bind (intOf? .i64 (AMem.ld M x7 0)) fun x_5 =>
      (Option.bind (intOf? .i64 (AMem.ld M x7 1)) fun x_6 =>
      (Option.bind (L.call 37 [.agg #[.int .i64 x_5, .int .i64 x_6], .pointer none] M) fun r_7 =>
      (Option.bind (sliceOf? (some r_7.1)) fun s_8 =>
      (if ((Int.ofNat s_8.2.1) == 0) = true
      then (Option.bind (L.call 13 [] []) fun r_9 =>
        (Option.bind (boolOf? (some r_9.1)) fun q_10 =>
        (if chkOk [(6, 9)] [(6, x7)] [(9, (M, M))] = true
        then some (.bool q_10, r_7.2)
        else none)))
      else (if chkOk [(6, 9)] [(6, x7)] [(9, (M, M))] = true
        then some (.bool false, r_7.2)
        else none))))))
    else (Option.bind (intOf? .i64 (AMem.ld M x7 0)) fun x_11 =>
      (Option.bind (intOf? .i64 (AMem.ld M x7 1)) fun x_12 =>
      (Option.bind (L.call 24 [.int .i64 (IntKind.wrap .i64 x2)] M) fun r_13 =>
      (Option.bind (ptrOf? (some r_13.1)) fun p_14 =>
      (Option.bind (L.call 37 [.agg #[.int .i64 x_11, .int .i64 x_12], .pointer p_14] r_13.2) fun r_15 =>
      (Option.bind (sliceOf? (some r_15.1)) fun s_16 =>
      (if ((Int.ofNat s_16.2.1) == 0) = true
      then (Option.bind (intOf? .i64 (AMem.ld r_15.2 x7 0)) fun x_17 =>
        (Option.bind (intOf? .i64 (AMem.ld r_15.2 x7 1)) fun x_18 =>
        (Option.bind (L.call 37 [.agg #[.int .i64 x_17, .int .i64 x_18], .pointer none] r_15.2) fun r_19 =>
        (Option.bind (sliceOf? (some r_19.1)) fun s_20 =>
        (if ((Int.ofNat s_20.2.1) == 0) = true
        then (Option.bind (L.call 13 [] []) fun r_21 =>
          (Option.bind (boolOf? (some r_21.1)) fun q_22 =>
          (if chkOk [(6, 9)] [(6, x7)] [(9, (M, r_13.2))] = true
          then some (.bool q_22, r_19.2)
          else none)))
        else (if chkOk [(6, 9)] [(6, x7)] [(9, (M, r_13.2))] = true
          then some (.bool false, r_19.2)
          else none))))))
      else (if chkOk [(6, 9)] [(6, x7)] [(9, (M, r_13.2))] = true
        then some (.bool false, r_15.2)
        else none))))))))))))) := by
  subst hP7_74; exact Eq.mp (by kernel_rfl) (G7_74 L  x2 x7 M)
theorem P7_74_eq (L : Rec) (x2 : Int) (x7 : Nat) (M : AMem) : P7_74 L x2 x7 M =
  (Option.bind (intOf? .i64 (AMem.ld M x7 0)) fun x_1 =>
    (Option.bind (intOf? .i64 (AMem.ld M x7 1)) fun x_2 =>
    (Option.bind (L.call 16 [.agg #[.int .i64 x_1, .int .i64 x_2]] []) fun r_3 =>
    (Option.bind (intOf? .i64 (some r_3.1)) fun x_4 =>
    (if ((IntKind.wrap .i64 x2) == x_4) = true
    then (Option.bind (intOf? .i64 (AMem.ld M x7 0)) fun x_5 =>
      (Option.bind (intOf? .i64 (AMem.ld M x7 1)) fun x_6 =>
      (Option.bind (L.call 37 [.agg #[.int .i64 x_5, .int .i64 x_6], .pointer none] M) fun r_7 =>
      (Option.bind (sliceOf? (some r_7.1)) fun s_8 =>
      (if ((Int.ofNat s_8.2.1) == 0) = true
      then (Option.bind (L.call 13 [] []) fun r_9 =>
        (Option.bind (boolOf? (some r_9.1)) fun q_10 =>
        (if chkOk [(6, 9)] [(6, x7)] [(9, (M, M))] = true
        then some (.bool q_10, r_7.2)
        else none)))
      else (if chkOk [(6, 9)] [(6, x7)] [(9, (M, M))] = true
        then some (.bool false, r_7.2)
        else none))))))
    else (Option.bind (intOf? .i64 (AMem.ld M x7 0)) fun x_11 =>
      (Option.bind (intOf? .i64 (AMem.ld M x7 1)) fun x_12 =>
      (Option.bind (L.call 24 [.int .i64 (IntKind.wrap .i64 x2)] M) fun r_13 =>
      (Option.bind (ptrOf? (some r_13.1)) fun p_14 =>
      (Option.bind (L.call 37 [.agg #[.int .i64 x_11, .int .i64 x_12], .pointer p_14] r_13.2) fun r_15 =>
      (Option.bind (sliceOf? (some r_15.1)) fun s_16 =>
      (if ((Int.ofNat s_16.2.1) == 0) = true
      then (Option.bind (intOf? .i64 (AMem.ld r_15.2 x7 0)) fun x_17 =>
        (Option.bind (intOf? .i64 (AMem.ld r_15.2 x7 1)) fun x_18 =>
        (Option.bind (L.call 37 [.agg #[.int .i64 x_17, .int .i64 x_18], .pointer none] r_15.2) fun r_19 =>
        (Option.bind (sliceOf? (some r_19.1)) fun s_20 =>
        (if ((Int.ofNat s_20.2.1) == 0) = true
        then (Option.bind (L.call 13 [] []) fun r_21 =>
          (Option.bind (boolOf? (some r_21.1)) fun q_22 =>
          (if chkOk [(6, 9)] [(6, x7)] [(9, (M, r_13.2))] = true
          then some (.bool q_22, r_19.2)
          else none)))
        else (if chkOk [(6, 9)] [(6, x7)] [(9, (M, r_13.2))] = true
          then some (.bool false, r_19.2)
          else none))))))
      else (if chkOk [(6, 9)] [(6, x7)] [(9, (M, r_13.2))] = true
        then some (.bool false, r_15.2)
        else none))))))))))))) := QP7_74_eq L P7_74 (Classical.choose_spec XP7_74) x2 x7 M
theorem GE7 (L : Rec) (b7_20 c7_43 : ACode) (x0_0 : Int) (x0_1 : Int) (x1 : Option Addr) (x1n : Nat) (x1c : Nat) (x2 : Int) (M : AMem) : enterF L ⟨152, [.tmp 6], .seq (.ops o7_1) (.seq (.seq (.ops o7_4) (.cond (.tmp 37) (.seq (.ops o7_7) (.ret)) (.skip))) (.seq (.ops o7_11) (.seq (.ops o7_13) (.seq (.ops o7_15) (.seq (.seq (.ops o7_18) (.block 0 (.clear [0, 4, 5, 6, 10, 12, 13, 14, 15, 16, 17, 18, 19, 20, 21, 22, 23, 24, 25, 26, 27, 28, 29, 30, 31, 32, 33, 34, 35, 36, 37, 38, 39, 40, 41, 42, 43, 44, 45, 46, 47, 48, 49, 50, 51, 52, 53, 54, 55, 56, 57, 58, 59, 60, 61, 62, 63, 64, 65, 66, 67, 68, 69, 70, 71, 72, 73, 74, 75, 76, 77, 78, 79, 80, 81, 82, 83, 84, 85, 86, 87, 88, 89, 90, 91, 92, 93, 94, 95, 96, 97, 98, 99, 100, 101, 102, 103, 104, 105, 106, 107, 108, 109, 110, 111, 112, 113, 114, 115, 116, 117, 118, 119, 120, 121, 122, 123, 124, 125, 126, 127, 128, 129, 130, 131, 132, 133, 134, 135, 136, 137, 138, 139, 140, 141, 142, 143, 144, 145, 146, 147, 148, 149, 150, 151] (.loop b7_20)))) (.clear [0, 1, 4, 5, 6, 10, 11, 12, 13, 14, 15, 16, 17, 18, 19, 20, 21, 22, 23, 24, 25, 26, 27, 28, 29, 30, 31, 32, 33, 34, 35, 36, 37, 38, 39, 40, 41, 42, 43, 44, 45, 46, 47, 48, 49, 50, 51, 52, 53, 54, 55, 56, 57, 58, 59, 60, 61, 62, 63, 64, 65, 66, 67, 68, 69, 70, 71, 72, 73, 74, 75, 76, 77, 78, 79, 80, 81, 82, 83, 84, 85, 86, 87, 88, 89, 90, 91, 92, 93, 94, 95, 96, 97, 98, 99, 100, 101, 102, 103, 104, 105, 106, 107, 108, 109, 110, 111, 112, 113, 114, 115, 116, 117, 118, 119, 120, 121, 122, 123, 124, 125, 126, 127, 128, 129, 130, 131, 132, 133, 134, 135, 136, 137, 138, 139, 140, 141, 142, 143, 144, 145, 146, 147, 148, 149, 150, 151] c7_43))))))⟩ [.agg #[.int .i64 x0_0, .int .i64 x0_1], .slice x1 x1n x1c, .int .u8 x2] M =
  (Option.bind (intOf? .i64 (AMem.ld (M ++ [AObj.cells [.int .i64 x0_0, .int .i64 x0_1] ⟨false, 0⟩]) (List.length M) 0)) fun x_1 =>
    (Option.bind (intOf? .i64 (AMem.ld (M ++ [AObj.cells [.int .i64 x0_0, .int .i64 x0_1] ⟨false, 0⟩]) (List.length M) 1)) fun x_2 =>
    (Option.bind (L.call 12 [.agg #[.int .i64 x_1, .int .i64 x_2]] []) fun r_3 =>
    (Option.bind (boolOf? (some r_3.1)) fun q_4 =>
    (if (!q_4) = true
    then (Option.bind (L.call 13 [] []) fun r_5 =>
      (Option.bind (boolOf? (some r_5.1)) fun q_6 =>
      some (.bool q_6, (M ++ [AObj.cells [.int .i64 x0_0, .int .i64 x0_1] ⟨false, 0⟩]))))
    else (Option.bind (intOf? .i64 (AMem.ld (M ++ [AObj.cells [.int .i64 x0_0, .int .i64 x0_1] ⟨false, 0⟩]) (List.length M) 0)) fun x_7 =>
      (if (decide (x_7 > 20)) = true
      then (Option.bind (L.call 13 [] []) fun r_8 =>
        (Option.bind (boolOf? (some r_8.1)) fun q_9 =>
        some (.bool q_9, (M ++ [AObj.cells [.int .i64 x0_0, .int .i64 x0_1] ⟨false, 0⟩]))))
      else (Option.bind (intOf? .i64 (AMem.ld (M ++ [AObj.cells [.int .i64 x0_0, .int .i64 x0_1] ⟨false, 0⟩]) (List.length M) 1)) fun x_10 =>
        (if (decide (x_10 > 5)) = true
        then (Option.bind (L.call 13 [] []) fun r_11 =>
          (Option.bind (boolOf? (some r_11.1)) fun q_12 =>
          some (.bool q_12, (M ++ [AObj.cells [.int .i64 x0_0, .int .i64 x0_1] ⟨false, 0⟩]))))
        else (if (decide ((Int.ofNat x1n) > 30)) = true
          then (Option.bind (L.call 13 [] []) fun r_13 =>
            (Option.bind (boolOf? (some r_13.1)) fun q_14 =>
            some (.bool q_14, (M ++ [AObj.cells [.int .i64 x0_0, .int .i64 x0_1] ⟨false, 0⟩]))))
          else (Option.bind (intOf? .i64 (AMem.ld (M ++ [AObj.cells [.int .i64 x0_0, .int .i64 x0_1] ⟨false, 0⟩]) (List.length M) 0)) fun x_15 =>
            (Option.bind (intOf? .i64 (AMem.ld (M ++ [AObj.cells [.int .i64 x0_0, .int .i64 x0_1] ⟨false, 0⟩]) (List.length M) 1)) fun x_16 =>
            (Option.bind (L.call 11 [.agg #[.int .i64 x_15, .int .i64 x_16]] []) fun r_17 =>
            (Option.bind (aggOf? 2 r_17.1) fun cs_18 =>
            (Option.bind (intOf? .i64 (cs_18[0]?)) fun x_19 =>
            (Option.bind (intOf? .i64 (cs_18[1]?)) fun x_20 =>
            (Option.bind (AMem.wr ((M ++ [AObj.cells [.int .i64 x0_0, .int .i64 x0_1] ⟨false, 0⟩]) ++ [AObj.cells [.int .i64 0, .int .i64 0] ⟨false, 0⟩]) (List.length (M ++ [AObj.cells [.int .i64 x0_0, .int .i64 x0_1] ⟨false, 0⟩])) 0 [.int .i64 x_19, .int .i64 x_20]) fun M_21 =>
            (Option.bind (intOf? .i64 (AMem.ld M_21 (List.length (M ++ [AObj.cells [.int .i64 x0_0, .int .i64 x0_1] ⟨false, 0⟩])) 0)) fun x_22 =>
            (Option.bind (intOf? .i64 (AMem.ld M_21 (List.length (M ++ [AObj.cells [.int .i64 x0_0, .int .i64 x0_1] ⟨false, 0⟩])) 1)) fun x_23 =>
            (Option.bind (L.call 16 [.agg #[.int .i64 x_22, .int .i64 x_23]] []) fun r_24 =>
            (Option.bind (intOf? .i64 (some r_24.1)) fun x_25 =>
            (Option.bind (L.call 24 [.int .i64 x_25] M_21) fun r_26 =>
            (Option.bind (ptrOf? (some r_26.1)) fun p_27 =>
            (Option.bind (intOf? .i64 (AMem.ld r_26.2 (List.length M) 0)) fun x_28 =>
            (Option.bind (intOf? .i64 (AMem.ld r_26.2 (List.length M) 1)) fun x_29 =>
            (Option.bind (L.call 36 [.agg #[.int .i64 x_28, .int .i64 x_29]] []) fun r_30 =>
            (Option.bind (intOf? .i64 (some r_30.1)) fun x_31 =>
            (Option.bind (L.call 25 [.int .i64 x_31] r_26.2) fun r_32 =>
            (Option.bind (tupOf? 2 r_32.1) fun cs_33 =>
            (Option.bind (cs_33[0]?) fun u_34 =>
            (Option.bind (aggOf? 3 u_34) fun cs_35 =>
            (Option.bind (sliceOf? (cs_35[0]?)) fun s_36 =>
            (Option.bind (intOf? .i64 (cs_35[1]?)) fun x_37 =>
            (Option.bind (intOf? .i64 (cs_35[2]?)) fun x_38 =>
            (Option.bind (cs_33[1]?) fun u_39 =>
            (Option.bind (boolOf? (some u_39)) fun q_40 =>
            (Option.bind (AMem.wr (r_32.2 ++ [AObj.cells [.slice none 0 0, .int .i64 0, .int .i64 0] ⟨false, 0⟩]) (List.length r_32.2) 0 [.slice s_36.1 s_36.2.1 s_36.2.2, .int .i64 x_37, .int .i64 x_38]) fun M_41 =>
            L.loop b7_20 (blockK 0 (seqK (code L (.clear [0, 1, 4, 5, 6, 10, 11, 12, 13, 14, 15, 16, 17, 18, 19, 20, 21, 22, 23, 24, 25, 26, 27, 28, 29, 30, 31, 32, 33, 34, 35, 36, 37, 38, 39, 40, 41, 42, 43, 44, 45, 46, 47, 48, 49, 50, 51, 52, 53, 54, 55, 56, 57, 58, 59, 60, 61, 62, 63, 64, 65, 66, 67, 68, 69, 70, 71, 72, 73, 74, 75, 76, 77, 78, 79, 80, 81, 82, 83, 84, 85, 86, 87, 88, 89, 90, 91, 92, 93, 94, 95, 96, 97, 98, 99, 100, 101, 102, 103, 104, 105, 106, 107, 108, 109, 110, 111, 112, 113, 114, 115, 116, 117, 118, 119, 120, 121, 122, 123, 124, 125, 126, 127, 128, 129, 130, 131, 132, 133, 134, 135, 136, 137, 138, 139, 140, 141, 142, 143, 144, 145, 146, 147, 148, 149, 150, 151] c7_43) (retK [.tmp 6])) (retK [.tmp 6]))) [junk, .slice x1 x1n x1c, .int .u8 x2, .pointer (some ⟨(List.length M), 0, none⟩), junk, junk, junk, .pointer (some ⟨(List.length (M ++ [AObj.cells [.int .i64 x0_0, .int .i64 x0_1] ⟨false, 0⟩])), 0, none⟩), .pointer p_27, .pointer (some ⟨(List.length r_32.2), 0, none⟩), junk, .int .i64 0, junk, junk, junk, junk, junk, junk, junk, junk, junk, junk, junk, junk, junk, junk, junk, junk, junk, junk, junk, junk, junk, junk, junk, junk, junk, junk, junk, junk, junk, junk, junk, junk, junk, junk, junk, junk, junk, junk, junk, junk, junk, junk, junk, junk, junk, junk, junk, junk, junk, junk, junk, junk, junk, junk, junk, junk, junk, junk, junk, junk, junk, junk, junk, junk, junk, junk, junk, junk, junk, junk, junk, junk, junk, junk, junk, junk, junk, junk, junk, junk, junk, junk, junk, junk, junk, junk, junk, junk, junk, junk, junk, junk, junk, junk, junk, junk, junk, junk, junk, junk, junk, junk, junk, junk, junk, junk, junk, junk, junk, junk, junk, junk, junk, junk, junk, junk, junk, junk, junk, junk, junk, junk, junk, junk, junk, junk, junk, junk, junk, junk, junk, junk, junk, junk, junk, junk, junk, junk, junk, junk] M_41))))))))))))))))))))))))))))))))))))) := by kernel_rfl
theorem QE7 (L : Rec) (P7_20 : Rec → (Option Addr) → Nat → Nat → Int → Nat → Nat → (Option Addr) → Nat → Int → AMem → Res) (hP7_20 : P7_20 = fun (L : Rec) (x1 : Option Addr) (x1n : Nat) (x1c : Nat) (x2 : Int) (x3 : Nat) (x7 : Nat) (x8 : Option Addr) (x9 : Nat) (x11 : Int) (M : AMem) => L.loop b7_20 (k7_20 L) (s7_20 x1 x1n x1c x2 x3 x7 x8 x9 x11 M) M) (x0_0 : Int) (x0_1 : Int) (x1 : Option Addr) (x1n : Nat) (x1c : Nat) (x2 : Int) (M : AMem) : enterF L a7 [.agg #[.int .i64 x0_0, .int .i64 x0_1], .slice x1 x1n x1c, .int .u8 x2] M =
  (Option.bind (intOf? .i64 (AMem.ld (M ++ [AObj.cells [.int .i64 x0_0, .int .i64 x0_1] ⟨false, 0⟩]) (List.length M) 0)) fun x_1 =>
    (Option.bind (intOf? .i64 (AMem.ld (M ++ [AObj.cells [.int .i64 x0_0, .int .i64 x0_1] ⟨false, 0⟩]) (List.length M) 1)) fun x_2 =>
    (Option.bind (L.call 12 [.agg #[.int .i64 x_1, .int .i64 x_2]] []) fun r_3 =>
    (Option.bind (boolOf? (some r_3.1)) fun q_4 =>
    (if (!q_4) = true
    then (Option.bind (L.call 13 [] []) fun r_5 =>
      (Option.bind (boolOf? (some r_5.1)) fun q_6 =>
      some (.bool q_6, (M ++ [AObj.cells [.int .i64 x0_0, .int .i64 x0_1] ⟨false, 0⟩]))))
    else (Option.bind (intOf? .i64 (AMem.ld (M ++ [AObj.cells [.int .i64 x0_0, .int .i64 x0_1] ⟨false, 0⟩]) (List.length M) 0)) fun x_7 =>
      (if (decide (x_7 > 20)) = true
      then (Option.bind (L.call 13 [] []) fun r_8 =>
        (Option.bind (boolOf? (some r_8.1)) fun q_9 =>
        some (.bool q_9, (M ++ [AObj.cells [.int .i64 x0_0, .int .i64 x0_1] ⟨false, 0⟩]))))
      else (Option.bind (intOf? .i64 (AMem.ld (M ++ [AObj.cells [.int .i64 x0_0, .int .i64 x0_1] ⟨false, 0⟩]) (List.length M) 1)) fun x_10 =>
        (if (decide (x_10 > 5)) = true
        then (Option.bind (L.call 13 [] []) fun r_11 =>
          (Option.bind (boolOf? (some r_11.1)) fun q_12 =>
          some (.bool q_12, (M ++ [AObj.cells [.int .i64 x0_0, .int .i64 x0_1] ⟨false, 0⟩]))))
        else (if (decide ((Int.ofNat x1n) > 30)) = true
          then (Option.bind (L.call 13 [] []) fun r_13 =>
            (Option.bind (boolOf? (some r_13.1)) fun q_14 =>
            some (.bool q_14, (M ++ [AObj.cells [.int .i64 x0_0, .int .i64 x0_1] ⟨false, 0⟩]))))
          else (Option.bind (intOf? .i64 (AMem.ld (M ++ [AObj.cells [.int .i64 x0_0, .int .i64 x0_1] ⟨false, 0⟩]) (List.length M) 0)) fun x_15 =>
            (Option.bind (intOf? .i64 (AMem.ld (M ++ [AObj.cells [.int .i64 x0_0, .int .i64 x0_1] ⟨false, 0⟩]) (List.length M) 1)) fun x_16 =>
            (Option.bind (L.call 11 [.agg #[.int .i64 x_15, .int .i64 x_16]] []) fun r_17 =>
            (Option.bind (aggOf? 2 r_17.1) fun cs_18 =>
            (Option.bind (intOf? .i64 (cs_18[0]?)) fun x_19 =>
            (Option.bind (intOf? .i64 (cs_18[1]?)) fun x_20 =>
            (Option.bind (AMem.wr ((M ++ [AObj.cells [.int .i64 x0_0, .int .i64 x0_1] ⟨false, 0⟩]) ++ [AObj.cells [.int .i64 0, .int .i64 0] ⟨false, 0⟩]) (List.length (M ++ [AObj.cells [.int .i64 x0_0, .int .i64 x0_1] ⟨false, 0⟩])) 0 [.int .i64 x_19, .int .i64 x_20]) fun M_21 =>
            (Option.bind (intOf? .i64 (AMem.ld M_21 (List.length (M ++ [AObj.cells [.int .i64 x0_0, .int .i64 x0_1] ⟨false, 0⟩])) 0)) fun x_22 =>
            (Option.bind (intOf? .i64 (AMem.ld M_21 (List.length (M ++ [AObj.cells [.int .i64 x0_0, .int .i64 x0_1] ⟨false, 0⟩])) 1)) fun x_23 =>
            (Option.bind (L.call 16 [.agg #[.int .i64 x_22, .int .i64 x_23]] []) fun r_24 =>
            (Option.bind (intOf? .i64 (some r_24.1)) fun x_25 =>
            (Option.bind (L.call 24 [.int .i64 x_25] M_21) fun r_26 =>
            (Option.bind (ptrOf? (some r_26.1)) fun p_27 =>
            (Option.bind (intOf? .i64 (AMem.ld r_26.2 (List.length M) 0)) fun x_28 =>
            (Option.bind (intOf? .i64 (AMem.ld r_26.2 (List.length M) 1)) fun x_29 =>
            (Option.bind (L.call 36 [.agg #[.int .i64 x_28, .int .i64 x_29]] []) fun r_30 =>
            (Option.bind (intOf? .i64 (some r_30.1)) fun x_31 =>
            (Option.bind (L.call 25 [.int .i64 x_31] r_26.2) fun r_32 =>
            (Option.bind (tupOf? 2 r_32.1) fun cs_33 =>
            (Option.bind (cs_33[0]?) fun u_34 =>
            (Option.bind (aggOf? 3 u_34) fun cs_35 =>
            (Option.bind (sliceOf? (cs_35[0]?)) fun s_36 =>
            (Option.bind (intOf? .i64 (cs_35[1]?)) fun x_37 =>
            (Option.bind (intOf? .i64 (cs_35[2]?)) fun x_38 =>
            (Option.bind (cs_33[1]?) fun u_39 =>
            (Option.bind (boolOf? (some u_39)) fun q_40 =>
            (Option.bind (AMem.wr (r_32.2 ++ [AObj.cells [.slice none 0 0, .int .i64 0, .int .i64 0] ⟨false, 0⟩]) (List.length r_32.2) 0 [.slice s_36.1 s_36.2.1 s_36.2.2, .int .i64 x_37, .int .i64 x_38]) fun M_41 =>
            P7_20 L x1 x1n x1c x2 (List.length M) (List.length (M ++ [AObj.cells [.int .i64 x0_0, .int .i64 x0_1] ⟨false, 0⟩])) p_27 (List.length r_32.2) 0 M_41))))))))))))))))))))))))))))))))))))) := by
  subst hP7_20; exact Eq.mp (by kernel_rfl) (GE7 L b7_20 c7_43 x0_0 x0_1 x1 x1n x1c x2 M)
theorem E7 (L : Rec) (x0_0 : Int) (x0_1 : Int) (x1 : Option Addr) (x1n : Nat) (x1c : Nat) (x2 : Int) (M : AMem) : enterF L a7 [.agg #[.int .i64 x0_0, .int .i64 x0_1], .slice x1 x1n x1c, .int .u8 x2] M =
  (Option.bind (intOf? .i64 (AMem.ld (M ++ [AObj.cells [.int .i64 x0_0, .int .i64 x0_1] ⟨false, 0⟩]) (List.length M) 0)) fun x_1 =>
    (Option.bind (intOf? .i64 (AMem.ld (M ++ [AObj.cells [.int .i64 x0_0, .int .i64 x0_1] ⟨false, 0⟩]) (List.length M) 1)) fun x_2 =>
    (Option.bind (L.call 12 [.agg #[.int .i64 x_1, .int .i64 x_2]] []) fun r_3 =>
    (Option.bind (boolOf? (some r_3.1)) fun q_4 =>
    (if (!q_4) = true
    then (Option.bind (L.call 13 [] []) fun r_5 =>
      (Option.bind (boolOf? (some r_5.1)) fun q_6 =>
      some (.bool q_6, (M ++ [AObj.cells [.int .i64 x0_0, .int .i64 x0_1] ⟨false, 0⟩]))))
    else (Option.bind (intOf? .i64 (AMem.ld (M ++ [AObj.cells [.int .i64 x0_0, .int .i64 x0_1] ⟨false, 0⟩]) (List.length M) 0)) fun x_7 =>
      (if (decide (x_7 > 20)) = true
      then (Option.bind (L.call 13 [] []) fun r_8 =>
        (Option.bind (boolOf? (some r_8.1)) fun q_9 =>
        some (.bool q_9, (M ++ [AObj.cells [.int .i64 x0_0, .int .i64 x0_1] ⟨false, 0⟩]))))
      else (Option.bind (intOf? .i64 (AMem.ld (M ++ [AObj.cells [.int .i64 x0_0, .int .i64 x0_1] ⟨false, 0⟩]) (List.length M) 1)) fun x_10 =>
        (if (decide (x_10 > 5)) = true
        then (Option.bind (L.call 13 [] []) fun r_11 =>
          (Option.bind (boolOf? (some r_11.1)) fun q_12 =>
          some (.bool q_12, (M ++ [AObj.cells [.int .i64 x0_0, .int .i64 x0_1] ⟨false, 0⟩]))))
        else (if (decide ((Int.ofNat x1n) > 30)) = true
          then (Option.bind (L.call 13 [] []) fun r_13 =>
            (Option.bind (boolOf? (some r_13.1)) fun q_14 =>
            some (.bool q_14, (M ++ [AObj.cells [.int .i64 x0_0, .int .i64 x0_1] ⟨false, 0⟩]))))
          else (Option.bind (intOf? .i64 (AMem.ld (M ++ [AObj.cells [.int .i64 x0_0, .int .i64 x0_1] ⟨false, 0⟩]) (List.length M) 0)) fun x_15 =>
            (Option.bind (intOf? .i64 (AMem.ld (M ++ [AObj.cells [.int .i64 x0_0, .int .i64 x0_1] ⟨false, 0⟩]) (List.length M) 1)) fun x_16 =>
            (Option.bind (L.call 11 [.agg #[.int .i64 x_15, .int .i64 x_16]] []) fun r_17 =>
            (Option.bind (aggOf? 2 r_17.1) fun cs_18 =>
            (Option.bind (intOf? .i64 (cs_18[0]?)) fun x_19 =>
            (Option.bind (intOf? .i64 (cs_18[1]?)) fun x_20 =>
            (Option.bind (AMem.wr ((M ++ [AObj.cells [.int .i64 x0_0, .int .i64 x0_1] ⟨false, 0⟩]) ++ [AObj.cells [.int .i64 0, .int .i64 0] ⟨false, 0⟩]) (List.length (M ++ [AObj.cells [.int .i64 x0_0, .int .i64 x0_1] ⟨false, 0⟩])) 0 [.int .i64 x_19, .int .i64 x_20]) fun M_21 =>
            (Option.bind (intOf? .i64 (AMem.ld M_21 (List.length (M ++ [AObj.cells [.int .i64 x0_0, .int .i64 x0_1] ⟨false, 0⟩])) 0)) fun x_22 =>
            (Option.bind (intOf? .i64 (AMem.ld M_21 (List.length (M ++ [AObj.cells [.int .i64 x0_0, .int .i64 x0_1] ⟨false, 0⟩])) 1)) fun x_23 =>
            (Option.bind (L.call 16 [.agg #[.int .i64 x_22, .int .i64 x_23]] []) fun r_24 =>
            (Option.bind (intOf? .i64 (some r_24.1)) fun x_25 =>
            (Option.bind (L.call 24 [.int .i64 x_25] M_21) fun r_26 =>
            (Option.bind (ptrOf? (some r_26.1)) fun p_27 =>
            (Option.bind (intOf? .i64 (AMem.ld r_26.2 (List.length M) 0)) fun x_28 =>
            (Option.bind (intOf? .i64 (AMem.ld r_26.2 (List.length M) 1)) fun x_29 =>
            (Option.bind (L.call 36 [.agg #[.int .i64 x_28, .int .i64 x_29]] []) fun r_30 =>
            (Option.bind (intOf? .i64 (some r_30.1)) fun x_31 =>
            (Option.bind (L.call 25 [.int .i64 x_31] r_26.2) fun r_32 =>
            (Option.bind (tupOf? 2 r_32.1) fun cs_33 =>
            (Option.bind (cs_33[0]?) fun u_34 =>
            (Option.bind (aggOf? 3 u_34) fun cs_35 =>
            (Option.bind (sliceOf? (cs_35[0]?)) fun s_36 =>
            (Option.bind (intOf? .i64 (cs_35[1]?)) fun x_37 =>
            (Option.bind (intOf? .i64 (cs_35[2]?)) fun x_38 =>
            (Option.bind (cs_33[1]?) fun u_39 =>
            (Option.bind (boolOf? (some u_39)) fun q_40 =>
            (Option.bind (AMem.wr (r_32.2 ++ [AObj.cells [.slice none 0 0, .int .i64 0, .int .i64 0] ⟨false, 0⟩]) (List.length r_32.2) 0 [.slice s_36.1 s_36.2.1 s_36.2.2, .int .i64 x_37, .int .i64 x_38]) fun M_41 =>
            P7_20 L x1 x1n x1c x2 (List.length M) (List.length (M ++ [AObj.cells [.int .i64 x0_0, .int .i64 x0_1] ⟨false, 0⟩])) p_27 (List.length r_32.2) 0 M_41))))))))))))))))))))))))))))))))))))) := QE7 L P7_20 (Classical.choose_spec XP7_20) x0_0 x0_1 x1 x1n x1c x2 M
end Go.Proofs.Ytaepdefnomcllaa
