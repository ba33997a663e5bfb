/- What the pieces of some functions come to. -/
import Derived.Test.YtkjgmcjdblhkeaaCode
set_option linter.unusedVariables false
set_option maxRecDepth 100000
namespace Go.Proofs.Ytkjgmcjdblhkeaa
open Go Go.Ax
/-! #### diff.fit -/
theorem E20 (L : Rec) (x0_0 : Int) (x0_1 : Int) (x0_2 : Option Addr) (x0_2n : Nat) (x0_2c : Nat) (x1_0 : Int) (x1_1 : Int) (x1_2 : Option Addr) (x1_2n : Nat) (x1_2c : Nat) (M : AMem) : enterF L a20 [.agg #[.int .i64 x0_0, .int .i64 x0_1, .slice x0_2 x0_2n x0_2c], .agg #[.int .i64 x1_0, .int .i64 x1_1, .slice x1_2 x1_2n x1_2c]] M =
  (Option.bind (intOf? .i64 (AMem.ld ((M ++ [AObj.cells [.int .i64 x0_0, .int .i64 x0_1, .slice x0_2 x0_2n x0_2c] ⟨false, 0⟩]) ++ [AObj.cells [.int .i64 x1_0, .int .i64 x1_1, .slice x1_2 x1_2n x1_2c] ⟨false, 0⟩]) (List.length M) 0)) fun x_1 =>
    (Option.bind (intOf? .i64 (AMem.ld ((M ++ [AObj.cells [.int .i64 x0_0, .int .i64 x0_1, .slice x0_2 x0_2n x0_2c] ⟨false, 0⟩]) ++ [AObj.cells [.int .i64 x1_0, .int .i64 x1_1, .slice x1_2 x1_2n x1_2c] ⟨false, 0⟩]) (List.length (M ++ [AObj.cells [.int .i64 x0_0, .int .i64 x0_1, .slice x0_2 x0_2n x0_2c] ⟨false, 0⟩])) 0)) fun x_2 =>
    (if (x_1 == x_2) = true
    then (Option.bind (intOf? .i64 (AMem.ld ((M ++ [AObj.cells [.int .i64 x0_0, .int .i64 x0_1, .slice x0_2 x0_2n x0_2c] ⟨false, 0⟩]) ++ [AObj.cells [.int .i64 x1_0, .int .i64 x1_1, .slice x1_2 x1_2n x1_2c] ⟨false, 0⟩]) (List.length M) 1)) fun x_3 =>
      (Option.bind (intOf? .i64 (AMem.ld ((M ++ [AObj.cells [.int .i64 x0_0, .int .i64 x0_1, .slice x0_2 x0_2n x0_2c] ⟨false, 0⟩]) ++ [AObj.cells [.int .i64 x1_0, .int .i64 x1_1, .slice x1_2 x1_2n x1_2c] ⟨false, 0⟩]) (List.length (M ++ [AObj.cells [.int .i64 x0_0, .int .i64 x0_1, .slice x0_2 x0_2n x0_2c] ⟨false, 0⟩])) 1)) fun x_4 =>
      (if (x_3 == x_4) = true
      then (Option.bind (intOf? .i64 (AMem.ld ((M ++ [AObj.cells [.int .i64 x0_0, .int .i64 x0_1, .slice x0_2 x0_2n x0_2c] ⟨false, 0⟩]) ++ [AObj.cells [.int .i64 x1_0, .int .i64 x1_1, .slice x1_2 x1_2n x1_2c] ⟨false, 0⟩]) (List.length M) 0)) fun x_5 =>
        (Option.bind (intOf? .i64 (AMem.ld ((M ++ [AObj.cells [.int .i64 x0_0, .int .i64 x0_1, .slice x0_2 x0_2n x0_2c] ⟨false, 0⟩]) ++ [AObj.cells [.int .i64 x1_0, .int .i64 x1_1, .slice x1_2 x1_2n x1_2c] ⟨false, 0⟩]) (List.length M) 1)) fun x_6 =>
        (Option.bind (sliceOf? (AMem.ld ((M ++ [AObj.cells [.int .i64 x0_0, .int .i64 x0_1, .slice x0_2 x0_2n x0_2c] ⟨false, 0⟩]) ++ [AObj.cells [.int .i64 x1_0, .int .i64 x1_1, .slice x1_2 x1_2n x1_2c] ⟨false, 0⟩]) (List.length M) 2)) fun s_7 =>
        (Option.bind (L.call 27 [.agg #[.int .i64 x_5, .int .i64 x_6, .slice s_7.1 s_7.2.1 s_7.2.2]] ((M ++ [AObj.cells [.int .i64 x0_0, .int .i64 x0_1, .slice x0_2 x0_2n x0_2c] ⟨false, 0⟩]) ++ [AObj.cells [.int .i64 x1_0, .int .i64 x1_1, .slice x1_2 x1_2n x1_2c] ⟨false, 0⟩])) fun r_8 =>
        (Option.bind (boolOf? (some r_8.1)) fun q_9 =>
        (if q_9 = true
        then (Option.bind (intOf? .i64 (AMem.ld r_8.2 (List.length (M ++ [AObj.cells [.int .i64 x0_0, .int .i64 x0_1, .slice x0_2 x0_2n x0_2c] ⟨false, 0⟩])) 0)) fun x_10 =>
          (Option.bind (intOf? .i64 (AMem.ld r_8.2 (List.length (M ++ [AObj.cells [.int .i64 x0_0, .int .i64 x0_1, .slice x0_2 x0_2n x0_2c] ⟨false, 0⟩])) 1)) fun x_11 =>
          (Option.bind (sliceOf? (AMem.ld r_8.2 (List.length (M ++ [AObj.cells [.int .i64 x0_0, .int .i64 x0_1, .slice x0_2 x0_2n x0_2c] ⟨false, 0⟩])) 2)) fun s_12 =>
          (Option.bind (L.call 27 [.agg #[.int .i64 x_10, .int .i64 x_11, .slice s_12.1 s_12.2.1 s_12.2.2]] r_8.2) fun r_13 =>
          (Option.bind (boolOf? (some r_13.1)) fun q_14 =>
          some (.bool q_14, r_13.2))))))
        else some (.bool false, r_8.2)))))))
      else some (.bool false, ((M ++ [AObj.cells [.int .i64 x0_0, .int .i64 x0_1, .slice x0_2 x0_2n x0_2c] ⟨false, 0⟩]) ++ [AObj.cells [.int .i64 x1_0, .int .i64 x1_1, .slice x1_2 x1_2n x1_2c] ⟨false, 0⟩])))))
    else some (.bool false, ((M ++ [AObj.cells [.int .i64 x0_0, .int .i64 x0_1, .slice x0_2 x0_2n x0_2c] ⟨false, 0⟩]) ++ [AObj.cells [.int .i64 x1_0, .int .i64 x1_1, .slice x1_2 x1_2n x1_2c] ⟨false, 0⟩]))))) := by kernel_rfl
/-! #### diff.pairs -/
theorem E21 (L : Rec) (x0_0 : Int) (x0_1 : Int) (x0_2 : Option Addr) (x0_2n : Nat) (x0_2c : Nat) (x1_0 : Int) (x1_1 : Int) (x1_2 : Option Addr) (x1_2n : Nat) (x1_2c : Nat) (M : AMem) : enterF L a21 [.agg #[.int .i64 x0_0, .int .i64 x0_1, .slice x0_2 x0_2n x0_2c], .agg #[.int .i64 x1_0, .int .i64 x1_1, .slice x1_2 x1_2n x1_2c]] M =
  some (.func (.func 28) #[] #[.pointer (some ⟨(List.length M), 0, none⟩), .pointer (some ⟨(List.length (M ++ [AObj.cells [.int .i64 x0_0, .int .i64 x0_1, .slice x0_2 x0_2n x0_2c] ⟨false, 0⟩])), 0, none⟩)], ((M ++ [AObj.cells [.int .i64 x0_0, .int .i64 x0_1, .slice x0_2 x0_2n x0_2c] ⟨false, 0⟩]) ++ [AObj.cells [.int .i64 x1_0, .int .i64 x1_1, .slice x1_2 x1_2n x1_2c] ⟨false, 0⟩])) := by kernel_rfl
/-! #### diff.pairs$1 -/
noncomputable def k28_3 (L : Rec) : KT := blockK 0 (retK [])
def s28_3 (x0 : Nat) (x2 : Nat) (x7 : Option Addr) (x7n : Nat) (x7c : Nat) (x8 : Int) (x9 : Int) (M : AMem) : List Value := [.func (.yield x0) #[] #[], junk, .pointer (some ⟨x2, 0, none⟩), junk, junk, junk, junk, .slice x7 x7n x7c, .int .i64 x8, .int .i64 x9, junk, junk, junk, junk, junk, junk, junk, junk, junk, junk, junk, junk, junk, junk, junk, junk]
theorem XP28_3 : ∃ P : Rec → Nat → Nat → (Option Addr) → Nat → Nat → Int → Int → AMem → Res, P = fun (L : Rec) (x0 : Nat) (x2 : Nat) (x7 : Option Addr) (x7n : Nat) (x7c : Nat) (x8 : Int) (x9 : Int) (M : AMem) => L.loop b28_3 (k28_3 L) (s28_3 x0 x2 x7 x7n x7c x8 x9 M) M := ⟨_, rfl⟩
noncomputable def P28_3 : Rec → Nat → Nat → (Option Addr) → Nat → Nat → Int → Int → AMem → Res := Classical.choose XP28_3
noncomputable def k28_19 (L : Rec) : KT := postK [1, 3, 4, 5, 6, 10, 11, 12, 13, 14, 15, 16, 17, 18, 19, 20, 21, 22, 23, 24, 25] (loopK L b28_3 (blockK 0 (retK [])))
def s28_19 (x0 : Nat) (x2 : Nat) (x7 : Option Addr) (x7n : Nat) (x7c : Nat) (x8 : Int) (x9 : Int) (M : AMem) : List Value := [.func (.yield x0) #[] #[], junk, .pointer (some ⟨x2, 0, none⟩), junk, junk, junk, junk, .slice x7 x7n x7c, .int .i64 x8, .int .i64 x9, junk, junk, junk, junk, junk, junk, junk, junk, junk, junk, junk, junk, junk, junk, junk, junk]
theorem XP28_19 : ∃ P : Rec → Nat → Nat → (Option Addr) → Nat → Nat → Int → Int → AMem → Res, P = fun (L : Rec) (x0 : Nat) (x2 : Nat) (x7 : Option Addr) (x7n : Nat) (x7c : Nat) (x8 : Int) (x9 : Int) (M : AMem) => code L c28_19 (k28_19 L) (s28_19 x0 x2 x7 x7n x7c x8 x9 M) M := ⟨_, rfl⟩
noncomputable def P28_19 : Rec → Nat → Nat → (Option Addr) → Nat → Nat → Int → Int → AMem → Res := Classical.choose XP28_19
theorem QP28_3_eq (L : Rec) (b28_3 c28_19 : ACode) (hb : ∀ K t A, L.loop b28_3 K t A = code L (.post (.seq (.ops o28_5) (.seq (.cond (.tmp 10) (.skip) (.exit 0)) (.seq (.block 1 (.seq (.ops o28_13) (.seq (.draw [] 0 o28_15 []) (.cond (.tmp 24) (.ret) (.skip))))) (.clear [1, 3, 4, 5, 6, 10, 11, 12, 13, 14, 15, 16, 17, 18, 19, 20, 21, 22, 23, 24, 25] c28_19)))) [1, 3, 4, 5, 6, 10, 11, 12, 13, 14, 15, 16, 17, 18, 19, 20, 21, 22, 23, 24, 25]) (loopK L b28_3 K) t A) (P28_3 : Rec → Nat → Nat → (Option Addr) → Nat → Nat → Int → Int → AMem → Res) (hP28_3 : P28_3 = fun (L : Rec) (x0 : Nat) (x2 : Nat) (x7 : Option Addr) (x7n : Nat) (x7c : Nat) (x8 : Int) (x9 : Int) (M : AMem) => L.loop b28_3 (blockK 0 (retK [])) (s28_3 x0 x2 x7 x7n x7c x8 x9 M) M) (P28_19 : Rec → Nat → Nat → (Option Addr) → Nat → Nat → Int → Int → AMem → Res) (hP28_19 : P28_19 = fun (L : Rec) (x0 : Nat) (x2 : Nat) (x7 : Option Addr) (x7n : Nat) (x7c : Nat) (x8 : Int) (x9 : Int) (M : AMem) => code L c28_19 (postK [1, 3, 4, 5, 6, 10, 11, 12, 13, 14, 15, 16, 17, 18, 19, 20, 21, 22, 23, 24, 25] (loopK L b28_3 (blockK 0 (retK [])))) (s28_19 x0 x2 x7 x7n x7c x8 x9 M) M) (x0 : Nat) (x2 : Nat) (x7 : Option Addr) (x7n : Nat) (x7c : Nat) (x8 : Int) (x9 : Int) (M : AMem) : P28_3 L x0 x2 x7 x7n x7c x8 x9 M =
  (if (decide (x9 < x8)) = true
    then (match x7 with
      | some a_1 => (if (0 : Int) ≤ x9 ∧ x9 < (Int.ofNat x7n)
        then (Option.bind (intOf? .i64 (AMem.ld M a_1.block (a_1.off + ((Int.toNat x9) * 3)))) fun x_2 =>
          (Option.bind (intOf? .i64 (AMem.ld M a_1.block ((a_1.off + ((Int.toNat x9) * 3)) + 1))) fun x_3 =>
          (Option.bind (intOf? .i64 (AMem.ld M a_1.block ((a_1.off + ((Int.toNat x9) * 3)) + 2))) fun x_4 =>
          (Option.bind (AMem.wr (M ++ [AObj.cells [.int .i64 0, .int .i64 0, .int .i64 0] ⟨false, 0⟩]) (List.length M) 0 [.int .i64 x_2, .int .i64 x_3, .int .i64 x_4]) fun M_5 =>
          (Option.bind (intOf? .i64 (AMem.ld M_5 (List.length M) 0)) fun x_6 =>
          (Option.bind (intOf? .i64 (AMem.ld M_5 (List.length M) 1)) fun x_7 =>
          (Option.bind (intOf? .i64 (AMem.ld M_5 (List.length M) 2)) fun x_8 =>
          (Option.bind (sliceOf? (AMem.ld M_5 x2 2)) fun s_9 =>
          (match s_9.1 with
          | some a_10 => (if (0 : Int) ≤ x9 ∧ x9 < (Int.ofNat s_9.2.1)
            then (Option.bind (intOf? .i64 (AMem.ld M_5 a_10.block (a_10.off + ((Int.toNat x9) * 3)))) fun x_11 =>
              (Option.bind (intOf? .i64 (AMem.ld M_5 a_10.block ((a_10.off + ((Int.toNat x9) * 3)) + 1))) fun x_12 =>
              (Option.bind (intOf? .i64 (AMem.ld M_5 a_10.block ((a_10.off + ((Int.toNat x9) * 3)) + 2))) fun x_13 =>
              (Option.bind (L.round x0 [.int .i64 x9, .agg #[.int .i64 x_6, .int .i64 x_7, .int .i64 x_8, .int .i64 x_11, .int .i64 x_12, .int .i64 x_13]] M_5) fun r_14 =>
              (Option.bind (boolOf? (some r_14.1)) fun q_15 =>
              (if (!q_15) = true
              then some (.tuple #[], r_14.2)
              else P28_19 L x0 x2 x7 x7n x7c x8 x9 r_14.2))))))
            else none)
          | none => none)))))))))
        else none)
      | none => none)
    else some (.tuple #[], M)) := by
  subst hP28_3; subst hP28_19; exact (hb (blockK 0 (retK [])) (s28_3 x0 x2 x7 x7n x7c x8 x9 M) M).trans (by kernel_rfl)
theorem P28_3_eq (L : Rec) (hL : ∀ b K t A, L.loop b K t A = code L b (loopK L b K) t A) (x0 : Nat) (x2 : Nat) (x7 : Option Addr) (x7n : Nat) (x7c : Nat) (x8 : Int) (x9 : Int) (M : AMem) : P28_3 L x0 x2 x7 x7n x7c x8 x9 M =
  (if (decide (x9 < x8)) = true
    then (match x7 with
      | some a_1 => (if (0 : Int) ≤ x9 ∧ x9 < (Int.ofNat x7n)
        then (Option.bind (intOf? .i64 (AMem.ld M a_1.block (a_1.off + ((Int.toNat x9) * 3)))) fun x_2 =>
          (Option.bind (intOf? .i64 (AMem.ld M a_1.block ((a_1.off + ((Int.toNat x9) * 3)) + 1))) fun x_3 =>
          (Option.bind (intOf? .i64 (AMem.ld M a_1.block ((a_1.off + ((Int.toNat x9) * 3)) + 2))) fun x_4 =>
          (Option.bind (AMem.wr (M ++ [AObj.cells [.int .i64 0, .int .i64 0, .int .i64 0] ⟨false, 0⟩]) (List.length M) 0 [.int .i64 x_2, .int .i64 x_3, .int .i64 x_4]) fun M_5 =>
          (Option.bind (intOf? .i64 (AMem.ld M_5 (List.length M) 0)) fun x_6 =>
          (Option.bind (intOf? .i64 (AMem.ld M_5 (List.length M) 1)) fun x_7 =>
          (Option.bind (intOf? .i64 (AMem.ld M_5 (List.length M) 2)) fun x_8 =>
          (Option.bind (sliceOf? (AMem.ld M_5 x2 2)) fun s_9 =>
          (match s_9.1 with
          | some a_10 => (if (0 : Int) ≤ x9 ∧ x9 < (Int.ofNat s_9.2.1)
            then (Option.bind (intOf? .i64 (AMem.ld M_5 a_10.block (a_10.off + ((Int.toNat x9) * 3)))) fun x_11 =>
              (Option.bind (intOf? .i64 (AMem.ld M_5 a_10.block ((a_10.off + ((Int.toNat x9) * 3)) + 1))) fun x_12 =>
              (Option.bind (intOf? .i64 (AMem.ld M_5 a_10.block ((a_10.off + ((Int.toNat x9) * 3)) + 2))) fun x_13 =>
              (Option.bind (L.round x0 [.int .i64 x9, .agg #[.int .i64 x_6, .int .i64 x_7, .int .i64 x_8, .int .i64 x_11, .int .i64 x_12, .int .i64 x_13]] M_5) fun r_14 =>
              (Option.bind (boolOf? (some r_14.1)) fun q_15 =>
              (if (!q_15) = true
              then some (.tuple #[], r_14.2)
              else P28_19 L x0 x2 x7 x7n x7c x8 x9 r_14.2))))))
            else none)
          | none => none)))))))))
        else none)
      | none => none)
    else some (.tuple #[], M)) := QP28_3_eq L b28_3 c28_19 (hL b28_3) P28_3 (Classical.choose_spec XP28_3) P28_19 (Classical.choose_spec XP28_19) x0 x2 x7 x7n x7c x8 x9 M
theorem QP28_19_eq (L : Rec) (b28_3 : ACode) (P28_3 : Rec → Nat → Nat → (Option Addr) → Nat → Nat → Int → Int → AMem → Res) (hP28_3 : P28_3 = fun (L : Rec) (x0 : Nat) (x2 : Nat) (x7 : Option Addr) (x7n : Nat) (x7c : Nat) (x8 : Int) (x9 : Int) (M : AMem) => L.loop b28_3 (blockK 0 (retK [])) (s28_3 x0 x2 x7 x7n x7c x8 x9 M) M) (P28_19 : Rec → Nat → Nat → (Option Addr) → Nat → Nat → Int → Int → AMem → Res) (hP28_19 : P28_19 = fun (L : Rec) (x0 : Nat) (x2 : Nat) (x7 : Option Addr) (x7n : Nat) (x7c : Nat) (x8 : Int) (x9 : Int) (M : AMem) => code L (.ops o28_19) (postK [1, 3, 4, 5, 6, 10, 11, 12, 13, 14, 15, 16, 17, 18, 19, 20, 21, 22, 23, 24, 25] (loopK L b28_3 (blockK 0 (retK [])))) (s28_19 x0 x2 x7 x7n x7c x8 x9 M) M) (x0 : Nat) (x2 : Nat) (x7 : Option Addr) (x7n : Nat) (x7c : Nat) (x8 : Int) (x9 : Int) (M : AMem) : P28_19 L x0 x2 x7 x7n x7c x8 x9 M =
  P28_3 L x0 x2 x7 x7n x7c x8 (IntKind.wrap .i64 (x9 + 1)) M := by
  subst hP28_3; subst hP28_19; kernel_rfl
theorem P28_19_eq (L : Rec) (x0 : Nat) (x2 : Nat) (x7 : Option Addr) (x7n : Nat) (x7c : Nat) (x8 : Int) (x9 : Int) (M : AMem) : P28_19 L x0 x2 x7 x7n x7c x8 x9 M =
  P28_3 L x0 x2 x7 x7n x7c x8 (IntKind.wrap .i64 (x9 + 1)) M := QP28_19_eq L b28_3 P28_3 (Classical.choose_spec XP28_3) P28_19 (Classical.choose_spec XP28_19) x0 x2 x7 x7n x7c x8 x9 M
theorem QE28 (L : Rec) (b28_3 : ACode) (P28_3 : Rec → Nat → Nat → (Option Addr) → Nat → Nat → Int → Int → AMem → Res) (hP28_3 : P28_3 = fun (L : Rec) (x0 : Nat) (x2 : Nat) (x7 : Option Addr) (x7n : Nat) (x7c : Nat) (x8 : Int) (x9 : Int) (M : AMem) => L.loop b28_3 (blockK 0 (retK [])) (s28_3 x0 x2 x7 x7n x7c x8 x9 M) M) (x0 : Nat) (x1 : Nat) (x2 : Nat) (M : AMem) : enterF L ⟨26, [], .seq (.ops o28_1) (.block 0 (.clear [1, 3, 4, 5, 6, 10, 11, 12, 13, 14, 15, 16, 17, 18, 19, 20, 21, 22, 23, 24, 25] (.loop b28_3)))⟩ [.func (.yield x0) #[] #[], .pointer (some ⟨x1, 0, none⟩), .pointer (some ⟨x2, 0, none⟩)] M =
  (Option.bind (sliceOf? (AMem.ld M x1 2)) fun s_1 =>
    P28_3 L x0 x2 s_1.1 s_1.2.1 s_1.2.2 (Int.ofNat s_1.2.1) 0 M) := by
  subst hP28_3; kernel_rfl
theorem E28 (L : Rec) (x0 : Nat) (x1 : Nat) (x2 : Nat) (M : AMem) : enterF L a28 [.func (.yield x0) #[] #[], .pointer (some ⟨x1, 0, none⟩), .pointer (some ⟨x2, 0, none⟩)] M =
  (Option.bind (sliceOf? (AMem.ld M x1 2)) fun s_1 =>
    P28_3 L x0 x2 s_1.1 s_1.2.1 s_1.2.2 (Int.ofNat s_1.2.1) 0 M) := QE28 L b28_3 P28_3 (Classical.choose_spec XP28_3) x0 x1 x2 M
/-! #### diff.Of -/
noncomputable def k6_49 (L : Rec) : KT := retK [.cell true [.int .i64, .int .i64, .int .i64, .int .i64] 4, .tmp 5]
def s6_49 (x4 : Nat) (x6 : Nat) (M : AMem) : List Value := [junk, junk, junk, junk, .pointer (some ⟨x4, 0, none⟩), junk, .pointer (some ⟨x6, 0, none⟩), junk, junk, junk, junk, junk, junk, junk, junk, junk, junk, junk, junk, junk, junk, junk, junk, junk, junk, junk, junk, junk, junk, junk, junk, junk, junk, junk, junk, junk, junk, junk, junk, junk, junk, junk, junk, junk, junk, junk, junk, junk, junk, junk, junk, junk, junk, junk, junk, junk, junk, junk, junk, junk, junk, junk, junk, junk, junk, junk, junk]
theorem XP6_49 : ∃ P : Rec → Nat → Nat → AMem → Res, P = fun (L : Rec) (x4 : Nat) (x6 : Nat) (M : AMem) => code L c6_49 (k6_49 L) (s6_49 x4 x6 M) M := ⟨_, rfl⟩
noncomputable def P6_49 : Rec → Nat → Nat → AMem → Res := Classical.choose XP6_49
noncomputable def k6_30 (L : Rec) (l : Nat) : KT := blockK 2 (blockK 1 (roundK l))
def s6_30 (l : Nat) (x6 : Nat) (x8 : Nat) (x32_0 : Int) (x32_1 : Int) (x32_2 : Int) (x33 : Int) (M : AMem) : List Value := [junk, junk, junk, junk, junk, junk, .pointer (some ⟨x6, 0, none⟩), junk, .pointer (some ⟨x8, 0, none⟩), junk, junk, junk, junk, junk, junk, junk, junk, junk, junk, junk, junk, junk, junk, junk, junk, junk, junk, junk, junk, junk, junk, junk, .agg #[.int .i64 x32_0, .int .i64 x32_1, .int .i64 x32_2], .int .i64 x33, junk, junk, junk, junk, junk, junk, junk, junk, junk, junk, junk, junk, junk, junk, junk, junk, junk, junk, junk, junk, junk, junk, junk, junk, junk, junk, junk, junk, junk, junk, junk, junk, junk]
theorem XP6_30 : ∃ P : Rec → Nat → Nat → Nat → Int → Int → Int → Int → AMem → Res, P = fun (L : Rec) (l : Nat) (x6 : Nat) (x8 : Nat) (x32_0 : Int) (x32_1 : Int) (x32_2 : Int) (x33 : Int) (M : AMem) => L.loop b6_30 (k6_30 L l) (s6_30 l x6 x8 x32_0 x32_1 x32_2 x33 M) M := ⟨_, rfl⟩
noncomputable def P6_30 : Rec → Nat → Nat → Nat → Int → Int → Int → Int → AMem → Res := Classical.choose XP6_30
noncomputable def k6_48 (L : Rec) (l : Nat) : KT := postK [0, 1, 2, 3, 4, 5, 7, 9, 10, 11, 12, 13, 14, 15, 16, 17, 18, 19, 20, 21, 22, 23, 24, 25, 26, 27, 28, 29, 30, 31, 34, 35, 36, 37, 38, 39, 40, 41, 42, 43, 44, 45, 46, 47, 48, 49, 50, 51, 52, 53, 54, 55, 56, 57, 58, 59, 60, 61, 62, 63, 64, 65, 66] (loopK L b6_30 (blockK 2 (blockK 1 (roundK l))))
def s6_48 (l : Nat) (x6 : Nat) (x8 : Nat) (x32_0 : Int) (x32_1 : Int) (x32_2 : Int) (x33 : Int) (M : AMem) : List Value := [junk, junk, junk, junk, junk, junk, .pointer (some ⟨x6, 0, none⟩), junk, .pointer (some ⟨x8, 0, none⟩), junk, junk, junk, junk, junk, junk, junk, junk, junk, junk, junk, junk, junk, junk, junk, junk, junk, junk, junk, junk, junk, junk, junk, .agg #[.int .i64 x32_0, .int .i64 x32_1, .int .i64 x32_2], .int .i64 x33, junk, junk, junk, junk, junk, junk, junk, junk, junk, junk, junk, junk, junk, junk, junk, junk, junk, junk, junk, junk, junk, junk, junk, junk, junk, junk, junk, junk, junk, junk, junk, junk, junk]
theorem XP6_48 : ∃ P : Rec → Nat → Nat → Nat → Int → Int → Int → Int → AMem → Res, P = fun (L : Rec) (l : Nat) (x6 : Nat) (x8 : Nat) (x32_0 : Int) (x32_1 : Int) (x32_2 : Int) (x33 : Int) (M : AMem) => code L c6_48 (k6_48 L l) (s6_48 l x6 x8 x32_0 x32_1 x32_2 x33 M) M := ⟨_, rfl⟩
noncomputable def P6_48 : Rec → Nat → Nat → Nat → Int → Int → Int → Int → AMem → Res := Classical.choose XP6_48
noncomputable def k6_16 (L : Rec) (l : Nat) : KT := roundK l
def s6_16 (l : Nat) (x4 : Nat) (x5 : Bool) (x6 : Nat) (x19 : Value) (y0 : Int) (y1_0 : Int) (y1_1 : Int) (y1_2 : Int) (y1_3 : Int) (y1_4 : Int) (y1_5 : Int) (z : Nat) (M : AMem) : List Value := [junk, junk, junk, junk, .pointer (some ⟨x4, 0, none⟩), .bool x5, .pointer (some ⟨x6, 0, none⟩), junk, .pointer (some ⟨z, 0, none⟩), junk, junk, junk, junk, junk, junk, junk, junk, junk, junk, x19, .int .i64 y0, .agg #[.int .i64 y1_0, .int .i64 y1_1, .int .i64 y1_2, .int .i64 y1_3, .int .i64 y1_4, .int .i64 y1_5], junk, junk, junk, junk, junk, junk, junk, junk, junk, junk, junk, junk, junk, junk, junk, junk, junk, junk, junk, junk, junk, junk, junk, junk, junk, junk, junk, junk, junk, junk, junk, junk, junk, junk, junk, junk, junk, junk, junk, junk, junk, junk, junk, junk, junk]
def lo6_16 (s : LoopState) (pe : Option AExit) (x4 : Nat) (x5 : Bool) (x6 : Nat) (x19 : Value) : ALoop := ⟨s, pe, [junk, junk, junk, junk, .pointer (some ⟨x4, 0, none⟩), .bool x5, .pointer (some ⟨x6, 0, none⟩), junk, junk, junk, junk, junk, junk, junk, junk, junk, junk, junk, junk, x19, junk, .tuple #[], junk, junk, junk, junk, junk, junk, junk, junk, junk, junk, junk, junk, junk, junk, junk, junk, junk, junk, junk, junk, junk, junk, junk, junk, junk, junk, junk, junk, junk, junk, junk, junk, junk, junk, junk, junk, junk, junk, junk, junk, junk, junk, junk, junk, junk], [20, 21], .ops o6_17, b6_16⟩
theorem XP6_16 : ∃ P : Rec → Nat → Nat → Bool → Nat → Value → Int → Int → Int → Int → Int → Int → Int → Nat → AMem → Res, P = fun (L : Rec) (l : Nat) (x4 : Nat) (x5 : Bool) (x6 : Nat) (x19 : Value) (y0 : Int) (y1_0 : Int) (y1_1 : Int) (y1_2 : Int) (y1_3 : Int) (y1_4 : Int) (y1_5 : Int) (z : Nat) (M : AMem) => code L b6_16 (k6_16 L l) (s6_16 l x4 x5 x6 x19 y0 y1_0 y1_1 y1_2 y1_3 y1_4 y1_5 z M) M := ⟨_, rfl⟩
noncomputable def P6_16 : Rec → Nat → Nat → Bool → Nat → Value → Int → Int → Int → Int → Int → Int → Int → Nat → AMem → Res := Classical.choose XP6_16
theorem QP6_49_eq (L : Rec) (P6_49 : Rec → Nat → Nat → AMem → Res) (hP6_49 : P6_49 = fun (L : Rec) (x4 : Nat) (x6 : Nat) (M : AMem) => code L (.seq (.ops o6_50) (.ret)) (retK [.cell true [.int .i64, .int .i64, .int .i64, .int .i64] 4, .tmp 5]) (s6_49 x4 x6 M) M) (x4 : Nat) (x6 : Nat) (M : AMem) : P6_49 L x4 x6 M =
  (Option.bind (intOf? .i64 (AMem.ld M x6 0)) fun x_1 =>
    (Option.bind (intOf? .i64 (AMem.ld M x6 1)) fun x_2 =>
    (Option.bind (intOf? .i64 (AMem.ld M x6 2)) fun x_3 =>
    (Option.bind (intOf? .i64 (AMem.ld M x6 3)) fun x_4 =>
    (Option.bind (AMem.wr M x4 0 [.int .i64 x_1, .int .i64 x_2, .int .i64 x_3, .int .i64 x_4]) fun M_5 =>
    (Option.bind (intOf? .i64 (AMem.ld M_5 x4 0)) fun x_6 =>
    (Option.bind (intOf? .i64 (AMem.ld M_5 x4 1)) fun x_7 =>
    (Option.bind (intOf? .i64 (AMem.ld M_5 x4 2)) fun x_8 =>
    (Option.bind (intOf? .i64 (AMem.ld M_5 x4 3)) fun x_9 =>
    some (.tuple #[.agg #[.int .i64 x_6, .int .i64 x_7, .int .i64 x_8, .int .i64 x_9], .bool true], M_5)))))))))) := by
  subst hP6_49; kernel_rfl
theorem P6_49_eq (L : Rec) (x4 : Nat) (x6 : Nat) (M : AMem) : P6_49 L x4 x6 M =
  (Option.bind (intOf? .i64 (AMem.ld M x6 0)) fun x_1 =>
    (Option.bind (intOf? .i64 (AMem.ld M x6 1)) fun x_2 =>
    (Option.bind (intOf? .i64 (AMem.ld M x6 2)) fun x_3 =>
    (Option.bind (intOf? .i64 (AMem.ld M x6 3)) fun x_4 =>
    (Option.bind (AMem.wr M x4 0 [.int .i64 x_1, .int .i64 x_2, .int .i64 x_3, .int .i64 x_4]) fun M_5 =>
    (Option.bind (intOf? .i64 (AMem.ld M_5 x4 0)) fun x_6 =>
    (Option.bind (intOf? .i64 (AMem.ld M_5 x4 1)) fun x_7 =>
    (Option.bind (intOf? .i64 (AMem.ld M_5 x4 2)) fun x_8 =>
    (Option.bind (intOf? .i64 (AMem.ld M_5 x4 3)) fun x_9 =>
    some (.tuple #[.agg #[.int .i64 x_6, .int .i64 x_7, .int .i64 x_8, .int .i64 x_9], .bool true], M_5)))))))))) := QP6_49_eq L P6_49 (Classical.choose_spec XP6_49) x4 x6 M
theorem QP6_30_eq (L : Rec) (b6_30 c6_48 : ACode) (hb : ∀ K t A, L.loop b6_30 K t A = code L (.post (.seq (.ops o6_32) (.seq (.cond (.tmp 34) (.skip) (.exit 2)) (.seq (.block 3 (.seq (.ops o6_40) (.seq (.ops o6_42) (.seq (.ops o6_44) (.seq (.ops o6_46) (.ops o6_47)))))) (.clear [0, 1, 2, 3, 4, 5, 7, 9, 10, 11, 12, 13, 14, 15, 16, 17, 18, 19, 20, 21, 22, 23, 24, 25, 26, 27, 28, 29, 30, 31, 34, 35, 36, 37, 38, 39, 40, 41, 42, 43, 44, 45, 46, 47, 48, 49, 50, 51, 52, 53, 54, 55, 56, 57, 58, 59, 60, 61, 62, 63, 64, 65, 66] c6_48)))) [0, 1, 2, 3, 4, 5, 7, 9, 10, 11, 12, 13, 14, 15, 16, 17, 18, 19, 20, 21, 22, 23, 24, 25, 26, 27, 28, 29, 30, 31, 34, 35, 36, 37, 38, 39, 40, 41, 42, 43, 44, 45, 46, 47, 48, 49, 50, 51, 52, 53, 54, 55, 56, 57, 58, 59, 60, 61, 62, 63, 64, 65, 66]) (loopK L b6_30 K) t A) (P6_30 : Rec → Nat → Nat → Nat → Int → Int → Int → Int → AMem → Res) (hP6_30 : P6_30 = fun (L : Rec) (l : Nat) (x6 : Nat) (x8 : Nat) (x32_0 : Int) (x32_1 : Int) (x32_2 : Int) (x33 : Int) (M : AMem) => L.loop b6_30 (blockK 2 (blockK 1 (roundK l))) (s6_30 l x6 x8 x32_0 x32_1 x32_2 x33 M) M) (P6_48 : Rec → Nat → Nat → Nat → Int → Int → Int → Int → AMem → Res) (hP6_48 : P6_48 = fun (L : Rec) (l : Nat) (x6 : Nat) (x8 : Nat) (x32_0 : Int) (x32_1 : Int) (x32_2 : Int) (x33 : Int) (M : AMem) => code L c6_48 (postK [0, 1, 2, 3, 4, 5, 7, 9, 10, 11, 12, 13, 14, 15, 16, 17, 18, 19, 20, 21, 22, 23, 24, 25, 26, 27, 28, 29, 30, 31, 34, 35, 36, 37, 38, 39, 40, 41, 42, 43, 44, 45, 46, 47, 48, 49, 50, 51, 52, 53, 54, 55, 56, 57, 58, 59, 60, 61, 62, 63, 64, 65, 66] (loopK L b6_30 (blockK 2 (blockK 1 (roundK l))))) (s6_48 l x6 x8 x32_0 x32_1 x32_2 x33 M) M) (l : Nat) (x6 : Nat) (x8 : Nat) (x32_0 : Int) (x32_1 : Int) (x32_2 : Int) (x33 : Int) (M : AMem) : P6_30 L l x6 x8 x32_0 x32_1 x32_2 x33 M =
  (if (decide (x33 < 3)) = true
    then (if (0 : Int) ≤ x33 ∧ x33 < 3
      then (Option.bind (([x32_0, x32_1, x32_2] : List Int)[((Int.toNat x33) * 1)]?) fun x_1 =>
        (if (0 : Int) ≤ x33 ∧ x33 < 3
        then (Option.bind (intOf? .i64 (AMem.ld M x8 (3 + ((Int.toNat x33) * 1)))) fun x_2 =>
          (Option.bind (intOf? .i64 (AMem.ld M x6 1)) fun x_3 =>
          (Option.bind (AMem.wr M x6 1 [.int .i64 (if (IntKind.wrap .i64 (0 - (IntKind.wrap .i64 (x_1 - x_2)))) > (if (IntKind.wrap .i64 (x_1 - x_2)) > x_3 then (IntKind.wrap .i64 (x_1 - x_2)) else x_3) then (IntKind.wrap .i64 (0 - (IntKind.wrap .i64 (x_1 - x_2)))) else (if (IntKind.wrap .i64 (x_1 - x_2)) > x_3 then (IntKind.wrap .i64 (x_1 - x_2)) else x_3))]) fun M_4 =>
          (Option.bind (intOf? .i64 (AMem.ld M_4 x6 2)) fun x_5 =>
          (Option.bind (AMem.wr M_4 x6 2 [.int .i64 (IntKind.wrap .i64 (x_5 + (if (IntKind.wrap .i64 (0 - (IntKind.wrap .i64 (x_1 - x_2)))) > (IntKind.wrap .i64 (x_1 - x_2)) then (IntKind.wrap .i64 (0 - (IntKind.wrap .i64 (x_1 - x_2)))) else (IntKind.wrap .i64 (x_1 - x_2)))))]) fun M_6 =>
          (Option.bind (intOf? .i64 (AMem.ld M_6 x6 3)) fun x_7 =>
          (Option.bind (AMem.wr M_6 x6 3 [.int .i64 (IntKind.wrap .i64 (x_7 + (IntKind.wrap .i64 ((IntKind.wrap .i64 (x_1 - x_2)) * (IntKind.wrap .i64 (x_1 - x_2))))))]) fun M_8 =>
          P6_48 L l x6 x8 x32_0 x32_1 x32_2 x33 M_8)))))))
        else none))
      else none)
    else roundK l AExit.normal [] M) := by
  subst hP6_30; subst hP6_48; exact (hb (blockK 2 (blockK 1 (roundK l))) (s6_30 l x6 x8 x32_0 x32_1 x32_2 x33 M) M).trans (by kernel_rfl)
theorem P6_30_eq (L : Rec) (hL : ∀ b K t A, L.loop b K t A = code L b (loopK L b K) t A) (l : Nat) (x6 : Nat) (x8 : Nat) (x32_0 : Int) (x32_1 : Int) (x32_2 : Int) (x33 : Int) (M : AMem) : P6_30 L l x6 x8 x32_0 x32_1 x32_2 x33 M =
  (if (decide (x33 < 3)) = true
    then (if (0 : Int) ≤ x33 ∧ x33 < 3
      then (Option.bind (([x32_0, x32_1, x32_2] : List Int)[((Int.toNat x33) * 1)]?) fun x_1 =>
        (if (0 : Int) ≤ x33 ∧ x33 < 3
        then (Option.bind (intOf? .i64 (AMem.ld M x8 (3 + ((Int.toNat x33) * 1)))) fun x_2 =>
          (Option.bind (intOf? .i64 (AMem.ld M x6 1)) fun x_3 =>
          (Option.bind (AMem.wr M x6 1 [.int .i64 (if (IntKind.wrap .i64 (0 - (IntKind.wrap .i64 (x_1 - x_2)))) > (if (IntKind.wrap .i64 (x_1 - x_2)) > x_3 then (IntKind.wrap .i64 (x_1 - x_2)) else x_3) then (IntKind.wrap .i64 (0 - (IntKind.wrap .i64 (x_1 - x_2)))) else (if (IntKind.wrap .i64 (x_1 - x_2)) > x_3 then (IntKind.wrap .i64 (x_1 - x_2)) else x_3))]) fun M_4 =>
          (Option.bind (intOf? .i64 (AMem.ld M_4 x6 2)) fun x_5 =>
          (Option.bind (AMem.wr M_4 x6 2 [.int .i64 (IntKind.wrap .i64 (x_5 + (if (IntKind.wrap .i64 (0 - (IntKind.wrap .i64 (x_1 - x_2)))) > (IntKind.wrap .i64 (x_1 - x_2)) then (IntKind.wrap .i64 (0 - (IntKind.wrap .i64 (x_1 - x_2)))) else (IntKind.wrap .i64 (x_1 - x_2)))))]) fun M_6 =>
          (Option.bind (intOf? .i64 (AMem.ld M_6 x6 3)) fun x_7 =>
          (Option.bind (AMem.wr M_6 x6 3 [.int .i64 (IntKind.wrap .i64 (x_7 + (IntKind.wrap .i64 ((IntKind.wrap .i64 (x_1 - x_2)) * (IntKind.wrap .i64 (x_1 - x_2))))))]) fun M_8 =>
          P6_48 L l x6 x8 x32_0 x32_1 x32_2 x33 M_8)))))))
        else none))
      else none)
    else roundK l AExit.normal [] M) := QP6_30_eq L b6_30 c6_48 (hL b6_30) P6_30 (Classical.choose_spec XP6_30) P6_48 (Classical.choose_spec XP6_48) l x6 x8 x32_0 x32_1 x32_2 x33 M
theorem QP6_48_eq (L : Rec) (b6_30 : ACode) (P6_30 : Rec → Nat → Nat → Nat → Int → Int → Int → Int → AMem → Res) (hP6_30 : P6_30 = fun (L : Rec) (l : Nat) (x6 : Nat) (x8 : Nat) (x32_0 : Int) (x32_1 : Int) (x32_2 : Int) (x33 : Int) (M : AMem) => L.loop b6_30 (blockK 2 (blockK 1 (roundK l))) (s6_30 l x6 x8 x32_0 x32_1 x32_2 x33 M) M) (P6_48 : Rec → Nat → Nat → Nat → Int → Int → Int → Int → AMem → Res) (hP6_48 : P6_48 = fun (L : Rec) (l : Nat) (x6 : Nat) (x8 : Nat) (x32_0 : Int) (x32_1 : Int) (x32_2 : Int) (x33 : Int) (M : AMem) => code L (.ops o6_48) (postK [0, 1, 2, 3, 4, 5, 7, 9, 10, 11, 12, 13, 14, 15, 16, 17, 18, 19, 20, 21, 22, 23, 24, 25, 26, 27, 28, 29, 30, 31, 34, 35, 36, 37, 38, 39, 40, 41, 42, 43, 44, 45, 46, 47, 48, 49, 50, 51, 52, 53, 54, 55, 56, 57, 58, 59, 60, 61, 62, 63, 64, 65, 66] (loopK L b6_30 (blockK 2 (blockK 1 (roundK l))))) (s6_48 l x6 x8 x32_0 x32_1 x32_2 x33 M) M) (l : Nat) (x6 : Nat) (x8 : Nat) (x32_0 : Int) (x32_1 : Int) (x32_2 : Int) (x33 : Int) (M : AMem) : P6_48 L l x6 x8 x32_0 x32_1 x32_2 x33 M =
  P6_30 L l x6 x8 x32_0 x32_1 x32_2 (IntKind.wrap .i64 (x33 + 1)) M := by
  subst hP6_30; subst hP6_48; kernel_rfl
theorem P6_48_eq (L : Rec) (l : Nat) (x6 : Nat) (x8 : Nat) (x32_0 : Int) (x32_1 : Int) (x32_2 : Int) (x33 : Int) (M : AMem) : P6_48 L l x6 x8 x32_0 x32_1 x32_2 x33 M =
  P6_30 L l x6 x8 x32_0 x32_1 x32_2 (IntKind.wrap .i64 (x33 + 1)) M := QP6_48_eq L b6_30 P6_30 (Classical.choose_spec XP6_30) P6_48 (Classical.choose_spec XP6_48) l x6 x8 x32_0 x32_1 x32_2 x33 M
theorem QP6_16_eq (L : Rec) (b6_30 : ACode) (P6_30 : Rec → Nat → Nat → Nat → Int → Int → Int → Int → AMem → Res) (hP6_30 : P6_30 = fun (L : Rec) (l : Nat) (x6 : Nat) (x8 : Nat) (x32_0 : Int) (x32_1 : Int) (x32_2 : Int) (x33 : Int) (M : AMem) => L.loop b6_30 (blockK 2 (blockK 1 (roundK l))) (s6_30 l x6 x8 x32_0 x32_1 x32_2 x33 M) M) (P6_16 : Rec → Nat → Nat → Bool → Nat → Value → Int → Int → Int → Int → Int → Int → Int → Nat → AMem → Res) (hP6_16 : P6_16 = fun (L : Rec) (l : Nat) (x4 : Nat) (x5 : Bool) (x6 : Nat) (x19 : Value) (y0 : Int) (y1_0 : Int) (y1_1 : Int) (y1_2 : Int) (y1_3 : Int) (y1_4 : Int) (y1_5 : Int) (z : Nat) (M : AMem) => code L (.block 1 (.seq (.seq (.ops o6_21) (.cond (.tmp 26) (.exit 1) (.skip))) (.seq (.ops o6_26) (.seq (.ops o6_28) (.block 2 (.clear [0, 1, 2, 3, 4, 5, 7, 9, 10, 11, 12, 13, 14, 15, 16, 17, 18, 19, 20, 21, 22, 23, 24, 25, 26, 27, 28, 29, 30, 31, 34, 35, 36, 37, 38, 39, 40, 41, 42, 43, 44, 45, 46, 47, 48, 49, 50, 51, 52, 53, 54, 55, 56, 57, 58, 59, 60, 61, 62, 63, 64, 65, 66] (.loop b6_30))))))) (roundK l) (s6_16 l x4 x5 x6 x19 y0 y1_0 y1_1 y1_2 y1_3 y1_4 y1_5 z M) M) (l : Nat) (x4 : Nat) (x5 : Bool) (x6 : Nat) (x19 : Value) (y0 : Int) (y1_0 : Int) (y1_1 : Int) (y1_2 : Int) (y1_3 : Int) (y1_4 : Int) (y1_5 : Int) (z : Nat) (M : AMem) : P6_16 L l x4 x5 x6 x19 y0 y1_0 y1_1 y1_2 y1_3 y1_4 y1_5 z M =
  (Option.bind (intOf? .i64 (AMem.ld M z 0)) fun x_2 =>
    (Option.bind (intOf? .i64 (AMem.ld M z 1)) fun x_3 =>
    (Option.bind (intOf? .i64 (AMem.ld M z 2)) fun x_4 =>
    (Option.bind (intOf? .i64 (AMem.ld M z 3)) fun x_5 =>
    (Option.bind (intOf? .i64 (AMem.ld M z 4)) fun x_6 =>
    (Option.bind (intOf? .i64 (AMem.ld M z 5)) fun x_7 =>
    (if ((x_2 == x_5) && ((x_3 == x_6) && (x_4 == x_7))) = true
    then roundK l AExit.normal [] M
    else (Option.bind (intOf? .i64 (AMem.ld M x6 0)) fun x_8 =>
      (Option.bind (AMem.wr M x6 0 [.int .i64 (IntKind.wrap .i64 (x_8 + 1))]) fun M_9 =>
      (Option.bind (intOf? .i64 (AMem.ld M_9 z 0)) fun x_10 =>
      (Option.bind (intOf? .i64 (AMem.ld M_9 z 1)) fun x_11 =>
      (Option.bind (intOf? .i64 (AMem.ld M_9 z 2)) fun x_12 =>
      P6_30 L l x6 z x_10 x_11 x_12 0 M_9)))))))))))) := by
  subst hP6_30; subst hP6_16; kernel_rfl
theorem P6_16_eq (L : Rec) (l : Nat) (x4 : Nat) (x5 : Bool) (x6 : Nat) (x19 : Value) (y0 : Int) (y1_0 : Int) (y1_1 : Int) (y1_2 : Int) (y1_3 : Int) (y1_4 : Int) (y1_5 : Int) (z : Nat) (M : AMem) : P6_16 L l x4 x5 x6 x19 y0 y1_0 y1_1 y1_2 y1_3 y1_4 y1_5 z M =
  (Option.bind (intOf? .i64 (AMem.ld M z 0)) fun x_2 =>
    (Option.bind (intOf? .i64 (AMem.ld M z 1)) fun x_3 =>
    (Option.bind (intOf? .i64 (AMem.ld M z 2)) fun x_4 =>
    (Option.bind (intOf? .i64 (AMem.ld M z 3)) fun x_5 =>
    (Option.bind (intOf? .i64 (AMem.ld M z 4)) fun x_6 =>
    (Option.bind (intOf? .i64 (AMem.ld M z 5)) fun x_7 =>
    (if ((x_2 == x_5) && ((x_3 == x_6) && (x_4 == x_7))) = true
    then roundK l AExit.normal [] M
    else (Option.bind (intOf? .i64 (AMem.ld M x6 0)) fun x_8 =>
      (Option.bind (AMem.wr M x6 0 [.int .i64 (IntKind.wrap .i64 (x_8 + 1))]) fun M_9 =>
      (Option.bind (intOf? .i64 (AMem.ld M_9 z 0)) fun x_10 =>
      (Option.bind (intOf? .i64 (AMem.ld M_9 z 1)) fun x_11 =>
      (Option.bind (intOf? .i64 (AMem.ld M_9 z 2)) fun x_12 =>
      P6_30 L l x6 z x_10 x_11 x_12 0 M_9)))))))))))) := QP6_16_eq L b6_30 P6_30 (Classical.choose_spec XP6_30) P6_16 (Classical.choose_spec XP6_16) l x4 x5 x6 x19 y0 y1_0 y1_1 y1_2 y1_3 y1_4 y1_5 z M
theorem R6_16 (L : Rec) (hR : ∀ l args A, L.round l args A = roundF L l args A) (l : Nat) (x4 : Nat) (x5 : Bool) (x6 : Nat) (x19 : Value) (y0 : Int) (y1_0 : Int) (y1_1 : Int) (y1_2 : Int) (y1_3 : Int) (y1_4 : Int) (y1_5 : Int) (M : AMem) (pe : Option AExit) (hM : M[l]? = some (.loop (lo6_16 .ready pe x4 x5 x6 x19))) (M1 : AMem) (hw : AMem.wr (M ++ [AObj.cells [.int .i64 0, .int .i64 0, .int .i64 0, .int .i64 0, .int .i64 0, .int .i64 0] ⟨false, 0⟩]) (List.length M) 0 [.int .i64 y1_0, .int .i64 y1_1, .int .i64 y1_2, .int .i64 y1_3, .int .i64 y1_4, .int .i64 y1_5] = some M1) (hM1 : M1[l]? = some (.loop (lo6_16 .ready pe x4 x5 x6 x19))) : L.round l [.int .i64 y0, .agg #[.int .i64 y1_0, .int .i64 y1_1, .int .i64 y1_2, .int .i64 y1_3, .int .i64 y1_4, .int .i64 y1_5]] M =
  P6_16 L l x4 x5 x6 x19 y0 y1_0 y1_1 y1_2 y1_3 y1_4 y1_5 (List.length M) (M1.set l (.loop (lo6_16 .busy pe x4 x5 x6 x19))) := by
  rw [hR, roundF_wr hM rfl rfl hw hM1 (s6_16 l x4 x5 x6 x19 y0 y1_0 y1_1 y1_2 y1_3 y1_4 y1_5 (List.length M) M) (fun K => by kernel_rfl)]; exact (congrFun (congrFun (congrFun (congrFun (congrFun (congrFun (congrFun (congrFun (congrFun (congrFun (congrFun (congrFun (congrFun (congrFun (congrFun (Classical.choose_spec XP6_16) L) l) x4) x5) x6) x19) y0) y1_0) y1_1) y1_2) y1_3) y1_4) y1_5) _) _).symm
theorem GE6 (L : Rec) (b6_16 c6_49 : ACode) (x0_0 : Int) (x0_1 : Int) (x0_2 : Option Addr) (x0_2n : Nat) (x0_2c : Nat) (x1_0 : Int) (x1_1 : Int) (x1_2 : Option Addr) (x1_2n : Nat) (x1_2c : Nat) (M : AMem) : enterF L ⟨67, [.cell true [.int .i64, .int .i64, .int .i64, .int .i64] 4, .tmp 5], .seq (.ops o6_1) (.seq (.seq (.ops o6_4) (.cond (.tmp 15) (.seq (.ops o6_7) (.ret)) (.skip))) (.seq (.ops o6_11) (.seq (.seq (.ops o6_14) (.block 0 (.clear [0, 1, 2, 3, 7, 8, 9, 10, 11, 12, 13, 14, 15, 16, 17, 18, 20, 22, 23, 24, 25, 26, 27, 28, 29, 30, 31, 32, 33, 34, 35, 36, 37, 38, 39, 40, 41, 42, 43, 44, 45, 46, 47, 48, 49, 50, 51, 52, 53, 54, 55, 56, 57, 58, 59, 60, 61, 62, 63, 64, 65, 66] (.rangeFunc (.tmp 19) [20, 21] (.ops o6_17) b6_16)))) (.clear [0, 1, 2, 3, 5, 7, 8, 9, 10, 11, 12, 13, 14, 15, 16, 17, 18, 19, 20, 21, 22, 23, 24, 25, 26, 27, 28, 29, 30, 31, 32, 33, 34, 35, 36, 37, 38, 39, 40, 41, 42, 43, 44, 45, 46, 47, 48, 49, 50, 51, 52, 53, 54, 55, 56, 57, 58, 59, 60, 61, 62, 63, 64, 65, 66] c6_49))))⟩ [.agg #[.int .i64 x0_0, .int .i64 x0_1, .slice x0_2 x0_2n x0_2c], .agg #[.int .i64 x1_0, .int .i64 x1_1, .slice x1_2 x1_2n x1_2c]] M =
  (Option.bind (intOf? .i64 (AMem.ld (((M ++ [AObj.cells [.int .i64 x0_0, .int .i64 x0_1, .slice x0_2 x0_2n x0_2c] ⟨false, 0⟩]) ++ [AObj.cells [.int .i64 x1_0, .int .i64 x1_1, .slice x1_2 x1_2n x1_2c] ⟨false, 0⟩]) ++ [AObj.cells [.int .i64 0, .int .i64 0, .int .i64 0, .int .i64 0] ⟨false, 0⟩]) (List.length M) 0)) fun x_1 =>
    (Option.bind (intOf? .i64 (AMem.ld (((M ++ [AObj.cells [.int .i64 x0_0, .int .i64 x0_1, .slice x0_2 x0_2n x0_2c] ⟨false, 0⟩]) ++ [AObj.cells [.int .i64 x1_0, .int .i64 x1_1, .slice x1_2 x1_2n x1_2c] ⟨false, 0⟩]) ++ [AObj.cells [.int .i64 0, .int .i64 0, .int .i64 0, .int .i64 0] ⟨false, 0⟩]) (List.length M) 1)) fun x_2 =>
    (Option.bind (sliceOf? (AMem.ld (((M ++ [AObj.cells [.int .i64 x0_0, .int .i64 x0_1, .slice x0_2 x0_2n x0_2c] ⟨false, 0⟩]) ++ [AObj.cells [.int .i64 x1_0, .int .i64 x1_1, .slice x1_2 x1_2n x1_2c] ⟨false, 0⟩]) ++ [AObj.cells [.int .i64 0, .int .i64 0, .int .i64 0, .int .i64 0] ⟨false, 0⟩]) (List.length M) 2)) fun s_3 =>
    (Option.bind (intOf? .i64 (AMem.ld (((M ++ [AObj.cells [.int .i64 x0_0, .int .i64 x0_1, .slice x0_2 x0_2n x0_2c] ⟨false, 0⟩]) ++ [AObj.cells [.int .i64 x1_0, .int .i64 x1_1, .slice x1_2 x1_2n x1_2c] ⟨false, 0⟩]) ++ [AObj.cells [.int .i64 0, .int .i64 0, .int .i64 0, .int .i64 0] ⟨false, 0⟩]) (List.length (M ++ [AObj.cells [.int .i64 x0_0, .int .i64 x0_1, .slice x0_2 x0_2n x0_2c] ⟨false, 0⟩])) 0)) fun x_4 =>
    (Option.bind (intOf? .i64 (AMem.ld (((M ++ [AObj.cells [.int .i64 x0_0, .int .i64 x0_1, .slice x0_2 x0_2n x0_2c] ⟨false, 0⟩]) ++ [AObj.cells [.int .i64 x1_0, .int .i64 x1_1, .slice x1_2 x1_2n x1_2c] ⟨false, 0⟩]) ++ [AObj.cells [.int .i64 0, .int .i64 0, .int .i64 0, .int .i64 0] ⟨false, 0⟩]) (List.length (M ++ [AObj.cells [.int .i64 x0_0, .int .i64 x0_1, .slice x0_2 x0_2n x0_2c] ⟨false, 0⟩])) 1)) fun x_5 =>
    (Option.bind (sliceOf? (AMem.ld (((M ++ [AObj.cells [.int .i64 x0_0, .int .i64 x0_1, .slice x0_2 x0_2n x0_2c] ⟨false, 0⟩]) ++ [AObj.cells [.int .i64 x1_0, .int .i64 x1_1, .slice x1_2 x1_2n x1_2c] ⟨false, 0⟩]) ++ [AObj.cells [.int .i64 0, .int .i64 0, .int .i64 0, .int .i64 0] ⟨false, 0⟩]) (List.length (M ++ [AObj.cells [.int .i64 x0_0, .int .i64 x0_1, .slice x0_2 x0_2n x0_2c] ⟨false, 0⟩])) 2)) fun s_6 =>
    (Option.bind (L.call 20 [.agg #[.int .i64 x_1, .int .i64 x_2, .slice s_3.1 s_3.2.1 s_3.2.2], .agg #[.int .i64 x_4, .int .i64 x_5, .slice s_6.1 s_6.2.1 s_6.2.2]] (((M ++ [AObj.cells [.int .i64 x0_0, .int .i64 x0_1, .slice x0_2 x0_2n x0_2c] ⟨false, 0⟩]) ++ [AObj.cells [.int .i64 x1_0, .int .i64 x1_1, .slice x1_2 x1_2n x1_2c] ⟨false, 0⟩]) ++ [AObj.cells [.int .i64 0, .int .i64 0, .int .i64 0, .int .i64 0] ⟨false, 0⟩])) fun r_7 =>
    (Option.bind (boolOf? (some r_7.1)) fun q_8 =>
    (if (!q_8) = true
    then (Option.bind (AMem.wr r_7.2 (List.length ((M ++ [AObj.cells [.int .i64 x0_0, .int .i64 x0_1, .slice x0_2 x0_2n x0_2c] ⟨false, 0⟩]) ++ [AObj.cells [.int .i64 x1_0, .int .i64 x1_1, .slice x1_2 x1_2n x1_2c] ⟨false, 0⟩])) 0 [.int .i64 0, .int .i64 0, .int .i64 0, .int .i64 0]) fun M_9 =>
      (Option.bind (intOf? .i64 (AMem.ld M_9 (List.length ((M ++ [AObj.cells [.int .i64 x0_0, .int .i64 x0_1, .slice x0_2 x0_2n x0_2c] ⟨false, 0⟩]) ++ [AObj.cells [.int .i64 x1_0, .int .i64 x1_1, .slice x1_2 x1_2n x1_2c] ⟨false, 0⟩])) 0)) fun x_10 =>
      (Option.bind (intOf? .i64 (AMem.ld M_9 (List.length ((M ++ [AObj.cells [.int .i64 x0_0, .int .i64 x0_1, .slice x0_2 x0_2n x0_2c] ⟨false, 0⟩]) ++ [AObj.cells [.int .i64 x1_0, .int .i64 x1_1, .slice x1_2 x1_2n x1_2c] ⟨false, 0⟩])) 1)) fun x_11 =>
      (Option.bind (intOf? .i64 (AMem.ld M_9 (List.length ((M ++ [AObj.cells [.int .i64 x0_0, .int .i64 x0_1, .slice x0_2 x0_2n x0_2c] ⟨false, 0⟩]) ++ [AObj.cells [.int .i64 x1_0, .int .i64 x1_1, .slice x1_2 x1_2n x1_2c] ⟨false, 0⟩])) 2)) fun x_12 =>
      (Option.bind (intOf? .i64 (AMem.ld M_9 (List.length ((M ++ [AObj.cells [.int .i64 x0_0, .int .i64 x0_1, .slice x0_2 x0_2n x0_2c] ⟨false, 0⟩]) ++ [AObj.cells [.int .i64 x1_0, .int .i64 x1_1, .slice x1_2 x1_2n x1_2c] ⟨false, 0⟩])) 3)) fun x_13 =>
      some (.tuple #[.agg #[.int .i64 x_10, .int .i64 x_11, .int .i64 x_12, .int .i64 x_13], .bool false], M_9))))))
    else (Option.bind (intOf? .i64 (AMem.ld (r_7.2 ++ [AObj.cells [.int .i64 0, .int .i64 0, .int .i64 0, .int .i64 0] ⟨false, 0⟩]) (List.length M) 0)) fun x_14 =>
      (Option.bind (intOf? .i64 (AMem.ld (r_7.2 ++ [AObj.cells [.int .i64 0, .int .i64 0, .int .i64 0, .int .i64 0] ⟨false, 0⟩]) (List.length M) 1)) fun x_15 =>
      (Option.bind (sliceOf? (AMem.ld (r_7.2 ++ [AObj.cells [.int .i64 0, .int .i64 0, .int .i64 0, .int .i64 0] ⟨false, 0⟩]) (List.length M) 2)) fun s_16 =>
      (Option.bind (intOf? .i64 (AMem.ld (r_7.2 ++ [AObj.cells [.int .i64 0, .int .i64 0, .int .i64 0, .int .i64 0] ⟨false, 0⟩]) (List.length (M ++ [AObj.cells [.int .i64 x0_0, .int .i64 x0_1, .slice x0_2 x0_2n x0_2c] ⟨false, 0⟩])) 0)) fun x_17 =>
      (Option.bind (intOf? .i64 (AMem.ld (r_7.2 ++ [AObj.cells [.int .i64 0, .int .i64 0, .int .i64 0, .int .i64 0] ⟨false, 0⟩]) (List.length (M ++ [AObj.cells [.int .i64 x0_0, .int .i64 x0_1, .slice x0_2 x0_2n x0_2c] ⟨false, 0⟩])) 1)) fun x_18 =>
      (Option.bind (sliceOf? (AMem.ld (r_7.2 ++ [AObj.cells [.int .i64 0, .int .i64 0, .int .i64 0, .int .i64 0] ⟨false, 0⟩]) (List.length (M ++ [AObj.cells [.int .i64 x0_0, .int .i64 x0_1, .slice x0_2 x0_2n x0_2c] ⟨false, 0⟩])) 2)) fun s_19 =>
      (Option.bind (L.call 21 [.agg #[.int .i64 x_14, .int .i64 x_15, .slice s_16.1 s_16.2.1 s_16.2.2], .agg #[.int .i64 x_17, .int .i64 x_18, .slice s_19.1 s_19.2.1 s_19.2.2]] (r_7.2 ++ [AObj.cells [.int .i64 0, .int .i64 0, .int .i64 0, .int .i64 0] ⟨false, 0⟩])) fun r_20 =>
      (Option.bind (anyOf? (some r_20.1)) fun u_21 =>
      (funK u_21 fun g_26 f_27 c_28 =>
      (Option.bind (L.call g_26 (f_27 ++ [.func (.yield (List.length r_20.2)) #[] #[]] ++ c_28) (r_20.2 ++ [AObj.loop ⟨.ready, none, [junk, junk, junk, junk, .pointer (some ⟨(List.length ((M ++ [AObj.cells [.int .i64 x0_0, .int .i64 x0_1, .slice x0_2 x0_2n x0_2c] ⟨false, 0⟩]) ++ [AObj.cells [.int .i64 x1_0, .int .i64 x1_1, .slice x1_2 x1_2n x1_2c] ⟨false, 0⟩])), 0, none⟩), .bool false, .pointer (some ⟨(List.length r_7.2), 0, none⟩), junk, junk, junk, junk, junk, junk, junk, junk, junk, junk, junk, junk, u_21, junk, .tuple #[], junk, junk, junk, junk, junk, junk, junk, junk, junk, junk, junk, junk, junk, junk, junk, junk, junk, junk, junk, junk, junk, junk, junk, junk, junk, junk, junk, junk, junk, junk, junk, junk, junk, junk, junk, junk, junk, junk, junk, junk, junk, junk, junk, junk, junk], [20, 21], .ops o6_17, b6_16⟩])) fun r_22 =>
      rangeK (List.length r_20.2) r_22 (fun M_24 =>
      code L c6_49 (retK [.cell true [.int .i64, .int .i64, .int .i64, .int .i64] 4, .tmp 5]) [junk, junk, junk, junk, .pointer (some ⟨(List.length ((M ++ [AObj.cells [.int .i64 x0_0, .int .i64 x0_1, .slice x0_2 x0_2n x0_2c] ⟨false, 0⟩]) ++ [AObj.cells [.int .i64 x1_0, .int .i64 x1_1, .slice x1_2 x1_2n x1_2c] ⟨false, 0⟩])), 0, none⟩), junk, .pointer (some ⟨(List.length r_7.2), 0, none⟩), junk, junk, junk, junk, junk, junk, junk, junk, junk, junk, junk, junk, junk, junk, junk, junk, junk, junk, junk, junk, junk, junk, junk, junk, junk, junk, junk, junk, junk, junk, junk, junk, junk, junk, junk, junk, junk, junk, junk, junk, junk, junk, junk, junk, junk, junk, junk, junk, junk, junk, junk, junk, junk, junk, junk, junk, junk, junk, junk, junk] M_24) (fun e_23 M_25 => (blockK 0 (seqK (code L (.clear [0, 1, 2, 3, 5, 7, 8, 9, 10, 11, 12, 13, 14, 15, 16, 17, 18, 19, 20, 21, 22, 23, 24, 25, 26, 27, 28, 29, 30, 31, 32, 33, 34, 35, 36, 37, 38, 39, 40, 41, 42, 43, 44, 45, 46, 47, 48, 49, 50, 51, 52, 53, 54, 55, 56, 57, 58, 59, 60, 61, 62, 63, 64, 65, 66] c6_49) (retK [.cell true [.int .i64, .int .i64, .int .i64, .int .i64] 4, .tmp 5])) (retK [.cell true [.int .i64, .int .i64, .int .i64, .int .i64] 4, .tmp 5]))) e_23 [junk, junk, junk, junk, .pointer (some ⟨(List.length ((M ++ [AObj.cells [.int .i64 x0_0, .int .i64 x0_1, .slice x0_2 x0_2n x0_2c] ⟨false, 0⟩]) ++ [AObj.cells [.int .i64 x1_0, .int .i64 x1_1, .slice x1_2 x1_2n x1_2c] ⟨false, 0⟩])), 0, none⟩), .bool false, .pointer (some ⟨(List.length r_7.2), 0, none⟩), junk, junk, junk, junk, junk, junk, junk, junk, junk, junk, junk, junk, u_21, junk, .tuple #[], junk, junk, junk, junk, junk, junk, junk, junk, junk, junk, junk, junk, junk, junk, junk, junk, junk, junk, junk, junk, junk, junk, junk, junk, junk, junk, junk, junk, junk, junk, junk, junk, junk, junk, junk, junk, junk, junk, junk, junk, junk, junk, junk, junk, junk] M_25)))))))))))))))))))) := by kernel_rfl
theorem QE6 (L : Rec) (P6_49 : Rec → Nat → Nat → AMem → Res) (hP6_49 : P6_49 = fun (L : Rec) (x4 : Nat) (x6 : Nat) (M : AMem) => code L c6_49 (k6_49 L) (s6_49 x4 x6 M) M) (x0_0 : Int) (x0_1 : Int) (x0_2 : Option Addr) (x0_2n : Nat) (x0_2c : Nat) (x1_0 : Int) (x1_1 : Int) (x1_2 : Option Addr) (x1_2n : Nat) (x1_2c : Nat) (M : AMem) : enterF L a6 [.agg #[.int .i64 x0_0, .int .i64 x0_1, .slice x0_2 x0_2n x0_2c], .agg #[.int .i64 x1_0, .int .i64 x1_1, .slice x1_2 x1_2n x1_2c]] M =
  (Option.bind (intOf? .i64 (AMem.ld (((M ++ [AObj.cells [.int .i64 x0_0, .int .i64 x0_1, .slice x0_2 x0_2n x0_2c] ⟨false, 0⟩]) ++ [AObj.cells [.int .i64 x1_0, .int .i64 x1_1, .slice x1_2 x1_2n x1_2c] ⟨false, 0⟩]) ++ [AObj.cells [.int .i64 0, .int .i64 0, .int .i64 0, .int .i64 0] ⟨false, 0⟩]) (List.length M) 0)) fun x_1 =>
    (Option.bind (intOf? .i64 (AMem.ld (((M ++ [AObj.cells [.int .i64 x0_0, .int .i64 x0_1, .slice x0_2 x0_2n x0_2c] ⟨false, 0⟩]) ++ [AObj.cells [.int .i64 x1_0, .int .i64 x1_1, .slice x1_2 x1_2n x1_2c] ⟨false, 0⟩]) ++ [AObj.cells [.int .i64 0, .int .i64 0, .int .i64 0, .int .i64 0] ⟨false, 0⟩]) (List.length M) 1)) fun x_2 =>
    (Option.bind (sliceOf? (AMem.ld (((M ++ [AObj.cells [.int .i64 x0_0, .int .i64 x0_1, .slice x0_2 x0_2n x0_2c] ⟨false, 0⟩]) ++ [AObj.cells [.int .i64 x1_0, .int .i64 x1_1, .slice x1_2 x1_2n x1_2c] ⟨false, 0⟩]) ++ [AObj.cells [.int .i64 0, .int .i64 0, .int .i64 0, .int .i64 0] ⟨false, 0⟩]) (List.length M) 2)) fun s_3 =>
    (Option.bind (intOf? .i64 (AMem.ld (((M ++ [AObj.cells [.int .i64 x0_0, .int .i64 x0_1, .slice x0_2 x0_2n x0_2c] ⟨false, 0⟩]) ++ [AObj.cells [.int .i64 x1_0, .int .i64 x1_1, .slice x1_2 x1_2n x1_2c] ⟨false, 0⟩]) ++ [AObj.cells [.int .i64 0, .int .i64 0, .int .i64 0, .int .i64 0] ⟨false, 0⟩]) (List.length (M ++ [AObj.cells [.int .i64 x0_0, .int .i64 x0_1, .slice x0_2 x0_2n x0_2c] ⟨false, 0⟩])) 0)) fun x_4 =>
    (Option.bind (intOf? .i64 (AMem.ld (((M ++ [AObj.cells [.int .i64 x0_0, .int .i64 x0_1, .slice x0_2 x0_2n x0_2c] ⟨false, 0⟩]) ++ [AObj.cells [.int .i64 x1_0, .int .i64 x1_1, .slice x1_2 x1_2n x1_2c] ⟨false, 0⟩]) ++ [AObj.cells [.int .i64 0, .int .i64 0, .int .i64 0, .int .i64 0] ⟨false, 0⟩]) (List.length (M ++ [AObj.cells [.int .i64 x0_0, .int .i64 x0_1, .slice x0_2 x0_2n x0_2c] ⟨false, 0⟩])) 1)) fun x_5 =>
    (Option.bind (sliceOf? (AMem.ld (((M ++ [AObj.cells [.int .i64 x0_0, .int .i64 x0_1, .slice x0_2 x0_2n x0_2c] ⟨false, 0⟩]) ++ [AObj.cells [.int .i64 x1_0, .int .i64 x1_1, .slice x1_2 x1_2n x1_2c] ⟨false, 0⟩]) ++ [AObj.cells [.int .i64 0, .int .i64 0, .int .i64 0, .int .i64 0] ⟨false, 0⟩]) (List.length (M ++ [AObj.cells [.int .i64 x0_0, .int .i64 x0_1, .slice x0_2 x0_2n x0_2c] ⟨false, 0⟩])) 2)) fun s_6 =>
    (Option.bind (L.call 20 [.agg #[.int .i64 x_1, .int .i64 x_2, .slice s_3.1 s_3.2.1 s_3.2.2], .agg #[.int .i64 x_4, .int .i64 x_5, .slice s_6.1 s_6.2.1 s_6.2.2]] (((M ++ [AObj.cells [.int .i64 x0_0, .int .i64 x0_1, .slice x0_2 x0_2n x0_2c] ⟨false, 0⟩]) ++ [AObj.cells [.int .i64 x1_0, .int .i64 x1_1, .slice x1_2 x1_2n x1_2c] ⟨false, 0⟩]) ++ [AObj.cells [.int .i64 0, .int .i64 0, .int .i64 0, .int .i64 0] ⟨false, 0⟩])) fun r_7 =>
    (Option.bind (boolOf? (some r_7.1)) fun q_8 =>
    (if (!q_8) = true
    then (Option.bind (AMem.wr r_7.2 (List.length ((M ++ [AObj.cells [.int .i64 x0_0, .int .i64 x0_1, .slice x0_2 x0_2n x0_2c] ⟨false, 0⟩]) ++ [AObj.cells [.int .i64 x1_0, .int .i64 x1_1, .slice x1_2 x1_2n x1_2c] ⟨false, 0⟩])) 0 [.int .i64 0, .int .i64 0, .int .i64 0, .int .i64 0]) fun M_9 =>
      (Option.bind (intOf? .i64 (AMem.ld M_9 (List.length ((M ++ [AObj.cells [.int .i64 x0_0, .int .i64 x0_1, .slice x0_2 x0_2n x0_2c] ⟨false, 0⟩]) ++ [AObj.cells [.int .i64 x1_0, .int .i64 x1_1, .slice x1_2 x1_2n x1_2c] ⟨false, 0⟩])) 0)) fun x_10 =>
      (Option.bind (intOf? .i64 (AMem.ld M_9 (List.length ((M ++ [AObj.cells [.int .i64 x0_0, .int .i64 x0_1, .slice x0_2 x0_2n x0_2c] ⟨false, 0⟩]) ++ [AObj.cells [.int .i64 x1_0, .int .i64 x1_1, .slice x1_2 x1_2n x1_2c] ⟨false, 0⟩])) 1)) fun x_11 =>
      (Option.bind (intOf? .i64 (AMem.ld M_9 (List.length ((M ++ [AObj.cells [.int .i64 x0_0, .int .i64 x0_1, .slice x0_2 x0_2n x0_2c] ⟨false, 0⟩]) ++ [AObj.cells [.int .i64 x1_0, .int .i64 x1_1, .slice x1_2 x1_2n x1_2c] ⟨false, 0⟩])) 2)) fun x_12 =>
      (Option.bind (intOf? .i64 (AMem.ld M_9 (List.length ((M ++ [AObj.cells [.int .i64 x0_0, .int .i64 x0_1, .slice x0_2 x0_2n x0_2c] ⟨false, 0⟩]) ++ [AObj.cells [.int .i64 x1_0, .int .i64 x1_1, .slice x1_2 x1_2n x1_2c] ⟨false, 0⟩])) 3)) fun x_13 =>
      some (.tuple #[.agg #[.int .i64 x_10, .int .i64 x_11, .int .i64 x_12, .int .i64 x_13], .bool false], M_9))))))
    else (Option.bind (intOf? .i64 (AMem.ld (r_7.2 ++ [AObj.cells [.int .i64 0, .int .i64 0, .int .i64 0, .int .i64 0] ⟨false, 0⟩]) (List.length M) 0)) fun x_14 =>
      (Option.bind (intOf? .i64 (AMem.ld (r_7.2 ++ [AObj.cells [.int .i64 0, .int .i64 0, .int .i64 0, .int .i64 0] ⟨false, 0⟩]) (List.length M) 1)) fun x_15 =>
      (Option.bind (sliceOf? (AMem.ld (r_7.2 ++ [AObj.cells [.int .i64 0, .int .i64 0, .int .i64 0, .int .i64 0] ⟨false, 0⟩]) (List.length M) 2)) fun s_16 =>
      (Option.bind (intOf? .i64 (AMem.ld (r_7.2 ++ [AObj.cells [.int .i64 0, .int .i64 0, .int .i64 0, .int .i64 0] ⟨false, 0⟩]) (List.length (M ++ [AObj.cells [.int .i64 x0_0, .int .i64 x0_1, .slice x0_2 x0_2n x0_2c] ⟨false, 0⟩])) 0)) fun x_17 =>
      (Option.bind (intOf? .i64 (AMem.ld (r_7.2 ++ [AObj.cells [.int .i64 0, .int .i64 0, .int .i64 0, .int .i64 0] ⟨false, 0⟩]) (List.length (M ++ [AObj.cells [.int .i64 x0_0, .int .i64 x0_1, .slice x0_2 x0_2n x0_2c] ⟨false, 0⟩])) 1)) fun x_18 =>
      (Option.bind (sliceOf? (AMem.ld (r_7.2 ++ [AObj.cells [.int .i64 0, .int .i64 0, .int .i64 0, .int .i64 0] ⟨false, 0⟩]) (List.length (M ++ [AObj.cells [.int .i64 x0_0, .int .i64 x0_1, .slice x0_2 x0_2n x0_2c] ⟨false, 0⟩])) 2)) fun s_19 =>
      (Option.bind (L.call 21 [.agg #[.int .i64 x_14, .int .i64 x_15, .slice s_16.1 s_16.2.1 s_16.2.2], .agg #[.int .i64 x_17, .int .i64 x_18, .slice s_19.1 s_19.2.1 s_19.2.2]] (r_7.2 ++ [AObj.cells [.int .i64 0, .int .i64 0, .int .i64 0, .int .i64 0] ⟨false, 0⟩])) fun r_20 =>
      (Option.bind (anyOf? (some r_20.1)) fun u_21 =>
      (funK u_21 fun g_26 f_27 c_28 =>
      (Option.bind (L.call g_26 (f_27 ++ [.func (.yield (List.length r_20.2)) #[] #[]] ++ c_28) (r_20.2 ++ [AObj.loop (lo6_16 .ready none (List.length ((M ++ [AObj.cells [.int .i64 x0_0, .int .i64 x0_1, .slice x0_2 x0_2n x0_2c] ⟨false, 0⟩]) ++ [AObj.cells [.int .i64 x1_0, .int .i64 x1_1, .slice x1_2 x1_2n x1_2c] ⟨false, 0⟩])) false (List.length r_7.2) u_21)])) fun r_22 =>
      rangeK (List.length r_20.2) r_22 (fun M_24 =>
      P6_49 L (List.length ((M ++ [AObj.cells [.int .i64 x0_0, .int .i64 x0_1, .slice x0_2 x0_2n x0_2c] ⟨false, 0⟩]) ++ [AObj.cells [.int .i64 x1_0, .int .i64 x1_1, .slice x1_2 x1_2n x1_2c] ⟨false, 0⟩])) (List.length r_7.2) M_24) (fun e_23 M_25 => (blockK 0 (seqK (code L (.clear [0, 1, 2, 3, 5, 7, 8, 9, 10, 11, 12, 13, 14, 15, 16, 17, 18, 19, 20, 21, 22, 23, 24, 25, 26, 27, 28, 29, 30, 31, 32, 33, 34, 35, 36, 37, 38, 39, 40, 41, 42, 43, 44, 45, 46, 47, 48, 49, 50, 51, 52, 53, 54, 55, 56, 57, 58, 59, 60, 61, 62, 63, 64, 65, 66] c6_49) (retK [.cell true [.int .i64, .int .i64, .int .i64, .int .i64] 4, .tmp 5])) (retK [.cell true [.int .i64, .int .i64, .int .i64, .int .i64] 4, .tmp 5]))) e_23 [junk, junk, junk, junk, .pointer (some ⟨(List.length ((M ++ [AObj.cells [.int .i64 x0_0, .int .i64 x0_1, .slice x0_2 x0_2n x0_2c] ⟨false, 0⟩]) ++ [AObj.cells [.int .i64 x1_0, .int .i64 x1_1, .slice x1_2 x1_2n x1_2c] ⟨false, 0⟩])), 0, none⟩), .bool false, .pointer (some ⟨(List.length r_7.2), 0, none⟩), junk, junk, junk, junk, junk, junk, junk, junk, junk, junk, junk, junk, u_21, junk, .tuple #[], junk, junk, junk, junk, junk, junk, junk, junk, junk, junk, junk, junk, junk, junk, junk, junk, junk, junk, junk, junk, junk, junk, junk, junk, junk, junk, junk, junk, junk, junk, junk, junk, junk, junk, junk, junk, junk, junk, junk, junk, junk, junk, junk, junk, junk] M_25)))))))))))))))))))) := by
  subst hP6_49; exact Eq.mp (by kernel_rfl) (GE6 L b6_16 c6_49 x0_0 x0_1 x0_2 x0_2n x0_2c x1_0 x1_1 x1_2 x1_2n x1_2c M)
theorem E6 (L : Rec) (x0_0 : Int) (x0_1 : Int) (x0_2 : Option Addr) (x0_2n : Nat) (x0_2c : Nat) (x1_0 : Int) (x1_1 : Int) (x1_2 : Option Addr) (x1_2n : Nat) (x1_2c : Nat) (M : AMem) : enterF L a6 [.agg #[.int .i64 x0_0, .int .i64 x0_1, .slice x0_2 x0_2n x0_2c], .agg #[.int .i64 x1_0, .int .i64 x1_1, .slice x1_2 x1_2n x1_2c]] M =
  (Option.bind (intOf? .i64 (AMem.ld (((M ++ [AObj.cells [.int .i64 x0_0, .int .i64 x0_1, .slice x0_2 x0_2n x0_2c] ⟨false, 0⟩]) ++ [AObj.cells [.int .i64 x1_0, .int .i64 x1_1, .slice x1_2 x1_2n x1_2c] ⟨false, 0⟩]) ++ [AObj.cells [.int .i64 0, .int .i64 0, .int .i64 0, .int .i64 0] ⟨false, 0⟩]) (List.length M) 0)) fun x_1 =>
    (Option.bind (intOf? .i64 (AMem.ld (((M ++ [AObj.cells [.int .i64 x0_0, .int .i64 x0_1, .slice x0_2 x0_2n x0_2c] ⟨false, 0⟩]) ++ [AObj.cells [.int .i64 x1_0, .int .i64 x1_1, .slice x1_2 x1_2n x1_2c] ⟨false, 0⟩]) ++ [AObj.cells [.int .i64 0, .int .i64 0, .int .i64 0, .int .i64 0] ⟨false, 0⟩]) (List.length M) 1)) fun x_2 =>
    (Option.bind (sliceOf? (AMem.ld (((M ++ [AObj.cells [.int .i64 x0_0, .int .i64 x0_1, .slice x0_2 x0_2n x0_2c] ⟨false, 0⟩]) ++ [AObj.cells [.int .i64 x1_0, .int .i64 x1_1, .slice x1_2 x1_2n x1_2c] ⟨false, 0⟩]) ++ [AObj.cells [.int .i64 0, .int .i64 0, .int .i64 0, .int .i64 0] ⟨false, 0⟩]) (List.length M) 2)) fun s_3 =>
    (Option.bind (intOf? .i64 (AMem.ld (((M ++ [AObj.cells [.int .i64 x0_0, .int .i64 x0_1, .slice x0_2 x0_2n x0_2c] ⟨false, 0⟩]) ++ [AObj.cells [.int .i64 x1_0, .int .i64 x1_1, .slice x1_2 x1_2n x1_2c] ⟨false, 0⟩]) ++ [AObj.cells [.int .i64 0, .int .i64 0, .int .i64 0, .int .i64 0] ⟨false, 0⟩]) (List.length (M ++ [AObj.cells [.int .i64 x0_0, .int .i64 x0_1, .slice x0_2 x0_2n x0_2c] ⟨false, 0⟩])) 0)) fun x_4 =>
    (Option.bind (intOf? .i64 (AMem.ld (((M ++ [AObj.cells [.int .i64 x0_0, .int .i64 x0_1, .slice x0_2 x0_2n x0_2c] ⟨false, 0⟩]) ++ [AObj.cells [.int .i64 x1_0, .int .i64 x1_1, .slice x1_2 x1_2n x1_2c] ⟨false, 0⟩]) ++ [AObj.cells [.int .i64 0, .int .i64 0, .int .i64 0, .int .i64 0] ⟨false, 0⟩]) (List.length (M ++ [AObj.cells [.int .i64 x0_0, .int .i64 x0_1, .slice x0_2 x0_2n x0_2c] ⟨false, 0⟩])) 1)) fun x_5 =>
    (Option.bind (sliceOf? (AMem.ld (((M ++ [AObj.cells [.int .i64 x0_0, .int .i64 x0_1, .slice x0_2 x0_2n x0_2c] ⟨false, 0⟩]) ++ [AObj.cells [.int .i64 x1_0, .int .i64 x1_1, .slice x1_2 x1_2n x1_2c] ⟨false, 0⟩]) ++ [AObj.cells [.int .i64 0, .int .i64 0, .int .i64 0, .int .i64 0] ⟨false, 0⟩]) (List.length (M ++ [AObj.cells [.int .i64 x0_0, .int .i64 x0_1, .slice x0_2 x0_2n x0_2c] ⟨false, 0⟩])) 2)) fun s_6 =>
    (Option.bind (L.call 20 [.agg #[.int .i64 x_1, .int .i64 x_2, .slice s_3.1 s_3.2.1 s_3.2.2], .agg #[.int .i64 x_4, .int .i64 x_5, .slice s_6.1 s_6.2.1 s_6.2.2]] (((M ++ [AObj.cells [.int .i64 x0_0, .int .i64 x0_1, .slice x0_2 x0_2n x0_2c] ⟨false, 0⟩]) ++ [AObj.cells [.int .i64 x1_0, .int .i64 x1_1, .slice x1_2 x1_2n x1_2c] ⟨false, 0⟩]) ++ [AObj.cells [.int .i64 0, .int .i64 0, .int .i64 0, .int .i64 0] ⟨false, 0⟩])) fun r_7 =>
    (Option.bind (boolOf? (some r_7.1)) fun q_8 =>
    (if (!q_8) = true
    then (Option.bind (AMem.wr r_7.2 (List.length ((M ++ [AObj.cells [.int .i64 x0_0, .int .i64 x0_1, .slice x0_2 x0_2n x0_2c] ⟨false, 0⟩]) ++ [AObj.cells [.int .i64 x1_0, .int .i64 x1_1, .slice x1_2 x1_2n x1_2c] ⟨false, 0⟩])) 0 [.int .i64 0, .int .i64 0, .int .i64 0, .int .i64 0]) fun M_9 =>
      (Option.bind (intOf? .i64 (AMem.ld M_9 (List.length ((M ++ [AObj.cells [.int .i64 x0_0, .int .i64 x0_1, .slice x0_2 x0_2n x0_2c] ⟨false, 0⟩]) ++ [AObj.cells [.int .i64 x1_0, .int .i64 x1_1, .slice x1_2 x1_2n x1_2c] ⟨false, 0⟩])) 0)) fun x_10 =>
      (Option.bind (intOf? .i64 (AMem.ld M_9 (List.length ((M ++ [AObj.cells [.int .i64 x0_0, .int .i64 x0_1, .slice x0_2 x0_2n x0_2c] ⟨false, 0⟩]) ++ [AObj.cells [.int .i64 x1_0, .int .i64 x1_1, .slice x1_2 x1_2n x1_2c] ⟨false, 0⟩])) 1)) fun x_11 =>
      (Option.bind (intOf? .i64 (AMem.ld M_9 (List.length ((M ++ [AObj.cells [.int .i64 x0_0, .int .i64 x0_1, .slice x0_2 x0_2n x0_2c] ⟨false, 0⟩]) ++ [AObj.cells [.int .i64 x1_0, .int .i64 x1_1, .slice x1_2 x1_2n x1_2c] ⟨false, 0⟩])) 2)) fun x_12 =>
      (Option.bind (intOf? .i64 (AMem.ld M_9 (List.length ((M ++ [AObj.cells [.int .i64 x0_0, .int .i64 x0_1, .slice x0_2 x0_2n x0_2c] ⟨false, 0⟩]) ++ [AObj.cells [.int .i64 x1_0, .int .i64 x1_1, .slice x1_2 x1_2n x1_2c] ⟨false, 0⟩])) 3)) fun x_13 =>
      some (.tuple #[.agg #[.int .i64 x_10, .int .i64 x_11, .int .i64 x_12, .int .i64 x_13], .bool false], M_9))))))
    else (Option.bind (intOf? .i64 (AMem.ld (r_7.2 ++ [AObj.cells [.int .i64 0, .int .i64 0, .int .i64 0, .int .i64 0] ⟨false, 0⟩]) (List.length M) 0)) fun x_14 =>
      (Option.bind (intOf? .i64 (AMem.ld (r_7.2 ++ [AObj.cells [.int .i64 0, .int .i64 0, .int .i64 0, .int .i64 0] ⟨false, 0⟩]) (List.length M) 1)) fun x_15 =>
      (Option.bind (sliceOf? (AMem.ld (r_7.2 ++ [AObj.cells [.int .i64 0, .int .i64 0, .int .i64 0, .int .i64 0] ⟨false, 0⟩]) (List.length M) 2)) fun s_16 =>
      (Option.bind (intOf? .i64 (AMem.ld (r_7.2 ++ [AObj.cells [.int .i64 0, .int .i64 0, .int .i64 0, .int .i64 0] ⟨false, 0⟩]) (List.length (M ++ [AObj.cells [.int .i64 x0_0, .int .i64 x0_1, .slice x0_2 x0_2n x0_2c] ⟨false, 0⟩])) 0)) fun x_17 =>
      (Option.bind (intOf? .i64 (AMem.ld (r_7.2 ++ [AObj.cells [.int .i64 0, .int .i64 0, .int .i64 0, .int .i64 0] ⟨false, 0⟩]) (List.length (M ++ [AObj.cells [.int .i64 x0_0, .int .i64 x0_1, .slice x0_2 x0_2n x0_2c] ⟨false, 0⟩])) 1)) fun x_18 =>
      (Option.bind (sliceOf? (AMem.ld (r_7.2 ++ [AObj.cells [.int .i64 0, .int .i64 0, .int .i64 0, .int .i64 0] ⟨false, 0⟩]) (List.length (M ++ [AObj.cells [.int .i64 x0_0, .int .i64 x0_1, .slice x0_2 x0_2n x0_2c] ⟨false, 0⟩])) 2)) fun s_19 =>
      (Option.bind (L.call 21 [.agg #[.int .i64 x_14, .int .i64 x_15, .slice s_16.1 s_16.2.1 s_16.2.2], .agg #[.int .i64 x_17, .int .i64 x_18, .slice s_19.1 s_19.2.1 s_19.2.2]] (r_7.2 ++ [AObj.cells [.int .i64 0, .int .i64 0, .int .i64 0, .int .i64 0] ⟨false, 0⟩])) fun r_20 =>
      (Option.bind (anyOf? (some r_20.1)) fun u_21 =>
      (funK u_21 fun g_26 f_27 c_28 =>
      (Option.bind (L.call g_26 (f_27 ++ [.func (.yield (List.length r_20.2)) #[] #[]] ++ c_28) (r_20.2 ++ [AObj.loop (lo6_16 .ready none (List.length ((M ++ [AObj.cells [.int .i64 x0_0, .int .i64 x0_1, .slice x0_2 x0_2n x0_2c] ⟨false, 0⟩]) ++ [AObj.cells [.int .i64 x1_0, .int .i64 x1_1, .slice x1_2 x1_2n x1_2c] ⟨false, 0⟩])) false (List.length r_7.2) u_21)])) fun r_22 =>
      rangeK (List.length r_20.2) r_22 (fun M_24 =>
      P6_49 L (List.length ((M ++ [AObj.cells [.int .i64 x0_0, .int .i64 x0_1, .slice x0_2 x0_2n x0_2c] ⟨false, 0⟩]) ++ [AObj.cells [.int .i64 x1_0, .int .i64 x1_1, .slice x1_2 x1_2n x1_2c] ⟨false, 0⟩])) (List.length r_7.2) M_24) (fun e_23 M_25 => (blockK 0 (seqK (code L (.clear [0, 1, 2, 3, 5, 7, 8, 9, 10, 11, 12, 13, 14, 15, 16, 17, 18, 19, 20, 21, 22, 23, 24, 25, 26, 27, 28, 29, 30, 31, 32, 33, 34, 35, 36, 37, 38, 39, 40, 41, 42, 43, 44, 45, 46, 47, 48, 49, 50, 51, 52, 53, 54, 55, 56, 57, 58, 59, 60, 61, 62, 63, 64, 65, 66] c6_49) (retK [.cell true [.int .i64, .int .i64, .int .i64, .int .i64] 4, .tmp 5])) (retK [.cell true [.int .i64, .int .i64, .int .i64, .int .i64] 4, .tmp 5]))) e_23 [junk, junk, junk, junk, .pointer (some ⟨(List.length ((M ++ [AObj.cells [.int .i64 x0_0, .int .i64 x0_1, .slice x0_2 x0_2n x0_2c] ⟨false, 0⟩]) ++ [AObj.cells [.int .i64 x1_0, .int .i64 x1_1, .slice x1_2 x1_2n x1_2c] ⟨false, 0⟩])), 0, none⟩), .bool false, .pointer (some ⟨(List.length r_7.2), 0, none⟩), junk, junk, junk, junk, junk, junk, junk, junk, junk, junk, junk, junk, u_21, junk, .tuple #[], junk, junk, junk, junk, junk, junk, junk, junk, junk, junk, junk, junk, junk, junk, junk, junk, junk, junk, junk, junk, junk, junk, junk, junk, junk, junk, junk, junk, junk, junk, junk, junk, junk, junk, junk, junk, junk, junk, junk, junk, junk, junk, junk, junk, junk] M_25)))))))))))))))))))) := QE6 L P6_49 (Classical.choose_spec XP6_49) x0_0 x0_1 x0_2 x0_2n x0_2c x1_0 x1_1 x1_2 x1_2n x1_2c M
/-! #### diff.Where -/
noncomputable def k9_26 (L : Rec) : KT := retK [.tmp 4]
def s9_26 (x5 : Nat) (M : AMem) : List Value := [junk, junk, junk, junk, junk, .pointer (some ⟨x5, 0, none⟩), junk, junk, junk, junk, junk, junk, junk, junk, junk, junk, junk, junk, junk, junk, junk, junk, junk, junk, junk, junk, junk]
theorem XP9_26 : ∃ P : Rec → Nat → AMem → Res, P = fun (L : Rec) (x5 : Nat) (M : AMem) => code L c9_26 (k9_26 L) (s9_26 x5 M) M := ⟨_, rfl⟩
noncomputable def P9_26 : Rec → Nat → AMem → Res := Classical.choose XP9_26
noncomputable def k9_16 (L : Rec) (l : Nat) : KT := roundK l
def s9_16 (l : Nat) (x4n : Nat) (x5 : Nat) (x14 : Value) (y0 : Int) (y1_0 : Int) (y1_1 : Int) (y1_2 : Int) (y1_3 : Int) (y1_4 : Int) (y1_5 : Int) (z : Nat) (M : AMem) : List Value := [junk, junk, junk, junk, .slice none x4n 0, .pointer (some ⟨x5, 0, none⟩), .int .i64 y0, .pointer (some ⟨z, 0, none⟩), junk, junk, junk, junk, junk, junk, x14, .int .i64 y0, .agg #[.int .i64 y1_0, .int .i64 y1_1, .int .i64 y1_2, .int .i64 y1_3, .int .i64 y1_4, .int .i64 y1_5], junk, junk, junk, junk, junk, junk, junk, junk, junk, junk]
def lo9_16 (s : LoopState) (pe : Option AExit) (x4n : Nat) (x5 : Nat) (x14 : Value) : ALoop := ⟨s, pe, [junk, junk, junk, junk, .slice none x4n 0, .pointer (some ⟨x5, 0, none⟩), junk, junk, junk, junk, junk, junk, junk, junk, x14, .tuple #[], .tuple #[], junk, junk, junk, junk, junk, junk, junk, junk, junk, junk], [15, 16], .seq (.ops o9_18) (.ops o9_19), b9_16⟩
theorem XP9_16 : ∃ P : Rec → Nat → Nat → Nat → Value → Int → Int → Int → Int → Int → Int → Int → Nat → AMem → Res, P = fun (L : Rec) (l : Nat) (x4n : Nat) (x5 : Nat) (x14 : Value) (y0 : Int) (y1_0 : Int) (y1_1 : Int) (y1_2 : Int) (y1_3 : Int) (y1_4 : Int) (y1_5 : Int) (z : Nat) (M : AMem) => code L b9_16 (k9_16 L l) (s9_16 l x4n x5 x14 y0 y1_0 y1_1 y1_2 y1_3 y1_4 y1_5 z M) M := ⟨_, rfl⟩
noncomputable def P9_16 : Rec → Nat → Nat → Nat → Value → Int → Int → Int → Int → Int → Int → Int → Nat → AMem → Res := Classical.choose XP9_16
theorem QP9_26_eq (L : Rec) (P9_26 : Rec → Nat → AMem → Res) (hP9_26 : P9_26 = fun (L : Rec) (x5 : Nat) (M : AMem) => code L (.seq (.ops o9_27) (.ret)) (retK [.tmp 4]) (s9_26 x5 M) M) (x5 : Nat) (M : AMem) : P9_26 L x5 M =
  (Option.bind (sliceOf? (AMem.ld M x5 0)) fun s_1 =>
    some (.slice s_1.1 s_1.2.1 s_1.2.2, M)) := by
  subst hP9_26; kernel_rfl
theorem P9_26_eq (L : Rec) (x5 : Nat) (M : AMem) : P9_26 L x5 M =
  (Option.bind (sliceOf? (AMem.ld M x5 0)) fun s_1 =>
    some (.slice s_1.1 s_1.2.1 s_1.2.2, M)) := QP9_26_eq L P9_26 (Classical.choose_spec XP9_26) x5 M
theorem QP9_16_eq (L : Rec) (P9_16 : Rec → Nat → Nat → Nat → Value → Int → Int → Int → Int → Int → Int → Int → Nat → AMem → Res) (hP9_16 : P9_16 = fun (L : Rec) (l : Nat) (x4n : Nat) (x5 : Nat) (x14 : Value) (y0 : Int) (y1_0 : Int) (y1_1 : Int) (y1_2 : Int) (y1_3 : Int) (y1_4 : Int) (y1_5 : Int) (z : Nat) (M : AMem) => code L (.block 1 (.seq (.ops o9_22) (.cond (.tmp 21) (.ops o9_24) (.skip)))) (roundK l) (s9_16 l x4n x5 x14 y0 y1_0 y1_1 y1_2 y1_3 y1_4 y1_5 z M) M) (l : Nat) (x4n : Nat) (x5 : Nat) (x14 : Value) (y0 : Int) (y1_0 : Int) (y1_1 : Int) (y1_2 : Int) (y1_3 : Int) (y1_4 : Int) (y1_5 : Int) (z : Nat) (M : AMem) : P9_16 L l x4n x5 x14 y0 y1_0 y1_1 y1_2 y1_3 y1_4 y1_5 z M =
  (Option.bind (intOf? .i64 (AMem.ld M z 0)) fun x_2 =>
    (Option.bind (intOf? .i64 (AMem.ld M z 1)) fun x_3 =>
    (Option.bind (intOf? .i64 (AMem.ld M z 2)) fun x_4 =>
    (Option.bind (intOf? .i64 (AMem.ld M z 3)) fun x_5 =>
    (Option.bind (intOf? .i64 (AMem.ld M z 4)) fun x_6 =>
    (Option.bind (intOf? .i64 (AMem.ld M z 5)) fun x_7 =>
    (if (!((x_2 == x_5) && ((x_3 == x_6) && (x_4 == x_7)))) = true
    then (Option.bind (sliceOf? (AMem.ld M x5 0)) fun s_8 =>
      (Option.bind (rowOf (M ++ [AObj.cells [.int .i64 y0] ⟨false, 0⟩]) 1 (.slice (some ⟨(List.length M), 0, none⟩) 1 1)) fun row_9 =>
      (appendK 1 8 s_8.1 s_8.2.1 s_8.2.2 1 row_9 (M ++ [AObj.cells [.int .i64 y0] ⟨false, 0⟩]) fun p_10 n_11 c_12 M_13 =>
      (Option.bind (AMem.wr M_13 x5 0 [.slice p_10 n_11 c_12]) fun M_14 =>
      roundK l AExit.normal [] M_14))))
    else roundK l AExit.normal [] M))))))) := by
  subst hP9_16; kernel_rfl
theorem P9_16_eq (L : Rec) (l : Nat) (x4n : Nat) (x5 : Nat) (x14 : Value) (y0 : Int) (y1_0 : Int) (y1_1 : Int) (y1_2 : Int) (y1_3 : Int) (y1_4 : Int) (y1_5 : Int) (z : Nat) (M : AMem) : P9_16 L l x4n x5 x14 y0 y1_0 y1_1 y1_2 y1_3 y1_4 y1_5 z M =
  (Option.bind (intOf? .i64 (AMem.ld M z 0)) fun x_2 =>
    (Option.bind (intOf? .i64 (AMem.ld M z 1)) fun x_3 =>
    (Option.bind (intOf? .i64 (AMem.ld M z 2)) fun x_4 =>
    (Option.bind (intOf? .i64 (AMem.ld M z 3)) fun x_5 =>
    (Option.bind (intOf? .i64 (AMem.ld M z 4)) fun x_6 =>
    (Option.bind (intOf? .i64 (AMem.ld M z 5)) fun x_7 =>
    (if (!((x_2 == x_5) && ((x_3 == x_6) && (x_4 == x_7)))) = true
    then (Option.bind (sliceOf? (AMem.ld M x5 0)) fun s_8 =>
      (Option.bind (rowOf (M ++ [AObj.cells [.int .i64 y0] ⟨false, 0⟩]) 1 (.slice (some ⟨(List.length M), 0, none⟩) 1 1)) fun row_9 =>
      (appendK 1 8 s_8.1 s_8.2.1 s_8.2.2 1 row_9 (M ++ [AObj.cells [.int .i64 y0] ⟨false, 0⟩]) fun p_10 n_11 c_12 M_13 =>
      (Option.bind (AMem.wr M_13 x5 0 [.slice p_10 n_11 c_12]) fun M_14 =>
      roundK l AExit.normal [] M_14))))
    else roundK l AExit.normal [] M))))))) := QP9_16_eq L P9_16 (Classical.choose_spec XP9_16) l x4n x5 x14 y0 y1_0 y1_1 y1_2 y1_3 y1_4 y1_5 z M
theorem R9_16 (L : Rec) (hR : ∀ l args A, L.round l args A = roundF L l args A) (l : Nat) (x4n : Nat) (x5 : Nat) (x14 : Value) (y0 : Int) (y1_0 : Int) (y1_1 : Int) (y1_2 : Int) (y1_3 : Int) (y1_4 : Int) (y1_5 : Int) (M : AMem) (pe : Option AExit) (hM : M[l]? = some (.loop (lo9_16 .ready pe x4n x5 x14))) (M1 : AMem) (hw : AMem.wr (M ++ [AObj.cells [.int .i64 0, .int .i64 0, .int .i64 0, .int .i64 0, .int .i64 0, .int .i64 0] ⟨false, 0⟩]) (List.length M) 0 [.int .i64 y1_0, .int .i64 y1_1, .int .i64 y1_2, .int .i64 y1_3, .int .i64 y1_4, .int .i64 y1_5] = some M1) (hM1 : M1[l]? = some (.loop (lo9_16 .ready pe x4n x5 x14))) : L.round l [.int .i64 y0, .agg #[.int .i64 y1_0, .int .i64 y1_1, .int .i64 y1_2, .int .i64 y1_3, .int .i64 y1_4, .int .i64 y1_5]] M =
  P9_16 L l x4n x5 x14 y0 y1_0 y1_1 y1_2 y1_3 y1_4 y1_5 (List.length M) (M1.set l (.loop (lo9_16 .busy pe x4n x5 x14))) := by
  rw [hR, roundF_wr hM rfl rfl hw hM1 (s9_16 l x4n x5 x14 y0 y1_0 y1_1 y1_2 y1_3 y1_4 y1_5 (List.length M) M) (fun K => by kernel_rfl)]; exact (congrFun (congrFun (congrFun (congrFun (congrFun (congrFun (congrFun (congrFun (congrFun (congrFun (congrFun (congrFun (congrFun (congrFun (Classical.choose_spec XP9_16) L) l) x4n) x5) x14) y0) y1_0) y1_1) y1_2) y1_3) y1_4) y1_5) _) _).symm
theorem GE9 (L : Rec) (b9_16 c9_26 : ACode) (x0_0 : Int) (x0_1 : Int) (x0_2 : Option Addr) (x0_2n : Nat) (x0_2c : Nat) (x1_0 : Int) (x1_1 : Int) (x1_2 : Option Addr) (x1_2n : Nat) (x1_2c : Nat) (M : AMem) : enterF L ⟨27, [.tmp 4], .seq (.ops o9_1) (.seq (.seq (.ops o9_4) (.cond (.tmp 11) (.seq (.ops o9_7) (.ret)) (.skip))) (.seq (.ops o9_11) (.seq (.seq (.ops o9_14) (.block 0 (.clear [0, 1, 2, 3, 6, 7, 8, 9, 10, 11, 12, 13, 17, 18, 19, 20, 21, 22, 23, 24, 25, 26] (.rangeFunc (.tmp 14) [15, 16] (.seq (.ops o9_18) (.ops o9_19)) b9_16)))) (.clear [0, 1, 2, 3, 4, 6, 7, 8, 9, 10, 11, 12, 13, 14, 15, 16, 17, 18, 19, 20, 21, 22, 23, 24, 25, 26] c9_26))))⟩ [.agg #[.int .i64 x0_0, .int .i64 x0_1, .slice x0_2 x0_2n x0_2c], .agg #[.int .i64 x1_0, .int .i64 x1_1, .slice x1_2 x1_2n x1_2c]] M =
  (Option.bind (intOf? .i64 (AMem.ld ((M ++ [AObj.cells [.int .i64 x0_0, .int .i64 x0_1, .slice x0_2 x0_2n x0_2c] ⟨false, 0⟩]) ++ [AObj.cells [.int .i64 x1_0, .int .i64 x1_1, .slice x1_2 x1_2n x1_2c] ⟨false, 0⟩]) (List.length M) 0)) fun x_1 =>
    (Option.bind (intOf? .i64 (AMem.ld ((M ++ [AObj.cells [.int .i64 x0_0, .int .i64 x0_1, .slice x0_2 x0_2n x0_2c] ⟨false, 0⟩]) ++ [AObj.cells [.int .i64 x1_0, .int .i64 x1_1, .slice x1_2 x1_2n x1_2c] ⟨false, 0⟩]) (List.length M) 1)) fun x_2 =>
    (Option.bind (sliceOf? (AMem.ld ((M ++ [AObj.cells [.int .i64 x0_0, .int .i64 x0_1, .slice x0_2 x0_2n x0_2c] ⟨false, 0⟩]) ++ [AObj.cells [.int .i64 x1_0, .int .i64 x1_1, .slice x1_2 x1_2n x1_2c] ⟨false, 0⟩]) (List.length M) 2)) fun s_3 =>
    (Option.bind (intOf? .i64 (AMem.ld ((M ++ [AObj.cells [.int .i64 x0_0, .int .i64 x0_1, .slice x0_2 x0_2n x0_2c] ⟨false, 0⟩]) ++ [AObj.cells [.int .i64 x1_0, .int .i64 x1_1, .slice x1_2 x1_2n x1_2c] ⟨false, 0⟩]) (List.length (M ++ [AObj.cells [.int .i64 x0_0, .int .i64 x0_1, .slice x0_2 x0_2n x0_2c] ⟨false, 0⟩])) 0)) fun x_4 =>
    (Option.bind (intOf? .i64 (AMem.ld ((M ++ [AObj.cells [.int .i64 x0_0, .int .i64 x0_1, .slice x0_2 x0_2n x0_2c] ⟨false, 0⟩]) ++ [AObj.cells [.int .i64 x1_0, .int .i64 x1_1, .slice x1_2 x1_2n x1_2c] ⟨false, 0⟩]) (List.length (M ++ [AObj.cells [.int .i64 x0_0, .int .i64 x0_1, .slice x0_2 x0_2n x0_2c] ⟨false, 0⟩])) 1)) fun x_5 =>
    (Option.bind (sliceOf? (AMem.ld ((M ++ [AObj.cells [.int .i64 x0_0, .int .i64 x0_1, .slice x0_2 x0_2n x0_2c] ⟨false, 0⟩]) ++ [AObj.cells [.int .i64 x1_0, .int .i64 x1_1, .slice x1_2 x1_2n x1_2c] ⟨false, 0⟩]) (List.length (M ++ [AObj.cells [.int .i64 x0_0, .int .i64 x0_1, .slice x0_2 x0_2n x0_2c] ⟨false, 0⟩])) 2)) fun s_6 =>
    (Option.bind (L.call 20 [.agg #[.int .i64 x_1, .int .i64 x_2, .slice s_3.1 s_3.2.1 s_3.2.2], .agg #[.int .i64 x_4, .int .i64 x_5, .slice s_6.1 s_6.2.1 s_6.2.2]] ((M ++ [AObj.cells [.int .i64 x0_0, .int .i64 x0_1, .slice x0_2 x0_2n x0_2c] ⟨false, 0⟩]) ++ [AObj.cells [.int .i64 x1_0, .int .i64 x1_1, .slice x1_2 x1_2n x1_2c] ⟨false, 0⟩])) fun r_7 =>
    (Option.bind (boolOf? (some r_7.1)) fun q_8 =>
    (if (!q_8) = true
    then some (.slice none 0 0, r_7.2)
    else (Option.bind (intOf? .i64 (AMem.ld (r_7.2 ++ [AObj.cells [.slice none 0 0] ⟨false, 0⟩]) (List.length M) 0)) fun x_9 =>
      (Option.bind (intOf? .i64 (AMem.ld (r_7.2 ++ [AObj.cells [.slice none 0 0] ⟨false, 0⟩]) (List.length M) 1)) fun x_10 =>
      (Option.bind (sliceOf? (AMem.ld (r_7.2 ++ [AObj.cells [.slice none 0 0] ⟨false, 0⟩]) (List.length M) 2)) fun s_11 =>
      (Option.bind (intOf? .i64 (AMem.ld (r_7.2 ++ [AObj.cells [.slice none 0 0] ⟨false, 0⟩]) (List.length (M ++ [AObj.cells [.int .i64 x0_0, .int .i64 x0_1, .slice x0_2 x0_2n x0_2c] ⟨false, 0⟩])) 0)) fun x_12 =>
      (Option.bind (intOf? .i64 (AMem.ld (r_7.2 ++ [AObj.cells [.slice none 0 0] ⟨false, 0⟩]) (List.length (M ++ [AObj.cells [.int .i64 x0_0, .int .i64 x0_1, .slice x0_2 x0_2n x0_2c] ⟨false, 0⟩])) 1)) fun x_13 =>
      (Option.bind (sliceOf? (AMem.ld (r_7.2 ++ [AObj.cells [.slice none 0 0] ⟨false, 0⟩]) (List.length (M ++ [AObj.cells [.int .i64 x0_0, .int .i64 x0_1, .slice x0_2 x0_2n x0_2c] ⟨false, 0⟩])) 2)) fun s_14 =>
      (Option.bind (L.call 21 [.agg #[.int .i64 x_9, .int .i64 x_10, .slice s_11.1 s_11.2.1 s_11.2.2], .agg #[.int .i64 x_12, .int .i64 x_13, .slice s_14.1 s_14.2.1 s_14.2.2]] (r_7.2 ++ [AObj.cells [.slice none 0 0] ⟨false, 0⟩])) fun r_15 =>
      (Option.bind (anyOf? (some r_15.1)) fun u_16 =>
      (funK u_16 fun g_21 f_22 c_23 =>
      (Option.bind (L.call g_21 (f_22 ++ [.func (.yield (List.length r_15.2)) #[] #[]] ++ c_23) (r_15.2 ++ [AObj.loop ⟨.ready, none, [junk, junk, junk, junk, .slice none 0 0, .pointer (some ⟨(List.length r_7.2), 0, none⟩), junk, junk, junk, junk, junk, junk, junk, junk, u_16, .tuple #[], .tuple #[], junk, junk, junk, junk, junk, junk, junk, junk, junk, junk], [15, 16], .seq (.ops o9_18) (.ops o9_19), b9_16⟩])) fun r_17 =>
      rangeK (List.length r_15.2) r_17 (fun M_19 =>
      code L c9_26 (retK [.tmp 4]) [junk, junk, junk, junk, junk, .pointer (some ⟨(List.length r_7.2), 0, none⟩), junk, junk, junk, junk, junk, junk, junk, junk, junk, junk, junk, junk, junk, junk, junk, junk, junk, junk, junk, junk, junk] M_19) (fun e_18 M_20 => (blockK 0 (seqK (code L (.clear [0, 1, 2, 3, 4, 6, 7, 8, 9, 10, 11, 12, 13, 14, 15, 16, 17, 18, 19, 20, 21, 22, 23, 24, 25, 26] c9_26) (retK [.tmp 4])) (retK [.tmp 4]))) e_18 [junk, junk, junk, junk, .slice none 0 0, .pointer (some ⟨(List.length r_7.2), 0, none⟩), junk, junk, junk, junk, junk, junk, junk, junk, u_16, .tuple #[], .tuple #[], junk, junk, junk, junk, junk, junk, junk, junk, junk, junk] M_20)))))))))))))))))))) := by kernel_rfl
theorem QE9 (L : Rec) (P9_26 : Rec → Nat → AMem → Res) (hP9_26 : P9_26 = fun (L : Rec) (x5 : Nat) (M : AMem) => code L c9_26 (k9_26 L) (s9_26 x5 M) M) (x0_0 : Int) (x0_1 : Int) (x0_2 : Option Addr) (x0_2n : Nat) (x0_2c : Nat) (x1_0 : Int) (x1_1 : Int) (x1_2 : Option Addr) (x1_2n : Nat) (x1_2c : Nat) (M : AMem) : enterF L a9 [.agg #[.int .i64 x0_0, .int .i64 x0_1, .slice x0_2 x0_2n x0_2c], .agg #[.int .i64 x1_0, .int .i64 x1_1, .slice x1_2 x1_2n x1_2c]] M =
  (Option.bind (intOf? .i64 (AMem.ld ((M ++ [AObj.cells [.int .i64 x0_0, .int .i64 x0_1, .slice x0_2 x0_2n x0_2c] ⟨false, 0⟩]) ++ [AObj.cells [.int .i64 x1_0, .int .i64 x1_1, .slice x1_2 x1_2n x1_2c] ⟨false, 0⟩]) (List.length M) 0)) fun x_1 =>
    (Option.bind (intOf? .i64 (AMem.ld ((M ++ [AObj.cells [.int .i64 x0_0, .int .i64 x0_1, .slice x0_2 x0_2n x0_2c] ⟨false, 0⟩]) ++ [AObj.cells [.int .i64 x1_0, .int .i64 x1_1, .slice x1_2 x1_2n x1_2c] ⟨false, 0⟩]) (List.length M) 1)) fun x_2 =>
    (Option.bind (sliceOf? (AMem.ld ((M ++ [AObj.cells [.int .i64 x0_0, .int .i64 x0_1, .slice x0_2 x0_2n x0_2c] ⟨false, 0⟩]) ++ [AObj.cells [.int .i64 x1_0, .int .i64 x1_1, .slice x1_2 x1_2n x1_2c] ⟨false, 0⟩]) (List.length M) 2)) fun s_3 =>
    (Option.bind (intOf? .i64 (AMem.ld ((M ++ [AObj.cells [.int .i64 x0_0, .int .i64 x0_1, .slice x0_2 x0_2n x0_2c] ⟨false, 0⟩]) ++ [AObj.cells [.int .i64 x1_0, .int .i64 x1_1, .slice x1_2 x1_2n x1_2c] ⟨false, 0⟩]) (List.length (M ++ [AObj.cells [.int .i64 x0_0, .int .i64 x0_1, .slice x0_2 x0_2n x0_2c] ⟨false, 0⟩])) 0)) fun x_4 =>
    (Option.bind (intOf? .i64 (AMem.ld ((M ++ [AObj.cells [.int .i64 x0_0, .int .i64 x0_1, .slice x0_2 x0_2n x0_2c] ⟨false, 0⟩]) ++ [AObj.cells [.int .i64 x1_0, .int .i64 x1_1, .slice x1_2 x1_2n x1_2c] ⟨false, 0⟩]) (List.length (M ++ [AObj.cells [.int .i64 x0_0, .int .i64 x0_1, .slice x0_2 x0_2n x0_2c] ⟨false, 0⟩])) 1)) fun x_5 =>
    (Option.bind (sliceOf? (AMem.ld ((M ++ [AObj.cells [.int .i64 x0_0, .int .i64 x0_1, .slice x0_2 x0_2n x0_2c] ⟨false, 0⟩]) ++ [AObj.cells [.int .i64 x1_0, .int .i64 x1_1, .slice x1_2 x1_2n x1_2c] ⟨false, 0⟩]) (List.length (M ++ [AObj.cells [.int .i64 x0_0, .int .i64 x0_1, .slice x0_2 x0_2n x0_2c] ⟨false, 0⟩])) 2)) fun s_6 =>
    (Option.bind (L.call 20 [.agg #[.int .i64 x_1, .int .i64 x_2, .slice s_3.1 s_3.2.1 s_3.2.2], .agg #[.int .i64 x_4, .int .i64 x_5, .slice s_6.1 s_6.2.1 s_6.2.2]] ((M ++ [AObj.cells [.int .i64 x0_0, .int .i64 x0_1, .slice x0_2 x0_2n x0_2c] ⟨false, 0⟩]) ++ [AObj.cells [.int .i64 x1_0, .int .i64 x1_1, .slice x1_2 x1_2n x1_2c] ⟨false, 0⟩])) fun r_7 =>
    (Option.bind (boolOf? (some r_7.1)) fun q_8 =>
    (if (!q_8) = true
    then some (.slice none 0 0, r_7.2)
    else (Option.bind (intOf? .i64 (AMem.ld (r_7.2 ++ [AObj.cells [.slice none 0 0] ⟨false, 0⟩]) (List.length M) 0)) fun x_9 =>
      (Option.bind (intOf? .i64 (AMem.ld (r_7.2 ++ [AObj.cells [.slice none 0 0] ⟨false, 0⟩]) (List.length M) 1)) fun x_10 =>
      (Option.bind (sliceOf? (AMem.ld (r_7.2 ++ [AObj.cells [.slice none 0 0] ⟨false, 0⟩]) (List.length M) 2)) fun s_11 =>
      (Option.bind (intOf? .i64 (AMem.ld (r_7.2 ++ [AObj.cells [.slice none 0 0] ⟨false, 0⟩]) (List.length (M ++ [AObj.cells [.int .i64 x0_0, .int .i64 x0_1, .slice x0_2 x0_2n x0_2c] ⟨false, 0⟩])) 0)) fun x_12 =>
      (Option.bind (intOf? .i64 (AMem.ld (r_7.2 ++ [AObj.cells [.slice none 0 0] ⟨false, 0⟩]) (List.length (M ++ [AObj.cells [.int .i64 x0_0, .int .i64 x0_1, .slice x0_2 x0_2n x0_2c] ⟨false, 0⟩])) 1)) fun x_13 =>
      (Option.bind (sliceOf? (AMem.ld (r_7.2 ++ [AObj.cells [.slice none 0 0] ⟨false, 0⟩]) (List.length (M ++ [AObj.cells [.int .i64 x0_0, .int .i64 x0_1, .slice x0_2 x0_2n x0_2c] ⟨false, 0⟩])) 2)) fun s_14 =>
      (Option.bind (L.call 21 [.agg #[.int .i64 x_9, .int .i64 x_10, .slice s_11.1 s_11.2.1 s_11.2.2], .agg #[.int .i64 x_12, .int .i64 x_13, .slice s_14.1 s_14.2.1 s_14.2.2]] (r_7.2 ++ [AObj.cells [.slice none 0 0] ⟨false, 0⟩])) fun r_15 =>
      (Option.bind (anyOf? (some r_15.1)) fun u_16 =>
      (funK u_16 fun g_21 f_22 c_23 =>
      (Option.bind (L.call g_21 (f_22 ++ [.func (.yield (List.length r_15.2)) #[] #[]] ++ c_23) (r_15.2 ++ [AObj.loop (lo9_16 .ready none 0 (List.length r_7.2) u_16)])) fun r_17 =>
      rangeK (List.length r_15.2) r_17 (fun M_19 =>
      P9_26 L (List.length r_7.2) M_19) (fun e_18 M_20 => (blockK 0 (seqK (code L (.clear [0, 1, 2, 3, 4, 6, 7, 8, 9, 10, 11, 12, 13, 14, 15, 16, 17, 18, 19, 20, 21, 22, 23, 24, 25, 26] c9_26) (retK [.tmp 4])) (retK [.tmp 4]))) e_18 [junk, junk, junk, junk, .slice none 0 0, .pointer (some ⟨(List.length r_7.2), 0, none⟩), junk, junk, junk, junk, junk, junk, junk, junk, u_16, .tuple #[], .tuple #[], junk, junk, junk, junk, junk, junk, junk, junk, junk, junk] M_20)))))))))))))))))))) := by
  subst hP9_26; exact Eq.mp (by kernel_rfl) (GE9 L b9_16 c9_26 x0_0 x0_1 x0_2 x0_2n x0_2c x1_0 x1_1 x1_2 x1_2n x1_2c M)
theorem E9 (L : Rec) (x0_0 : Int) (x0_1 : Int) (x0_2 : Option Addr) (x0_2n : Nat) (x0_2c : Nat) (x1_0 : Int) (x1_1 : Int) (x1_2 : Option Addr) (x1_2n : Nat) (x1_2c : Nat) (M : AMem) : enterF L a9 [.agg #[.int .i64 x0_0, .int .i64 x0_1, .slice x0_2 x0_2n x0_2c], .agg #[.int .i64 x1_0, .int .i64 x1_1, .slice x1_2 x1_2n x1_2c]] M =
  (Option.bind (intOf? .i64 (AMem.ld ((M ++ [AObj.cells [.int .i64 x0_0, .int .i64 x0_1, .slice x0_2 x0_2n x0_2c] ⟨false, 0⟩]) ++ [AObj.cells [.int .i64 x1_0, .int .i64 x1_1, .slice x1_2 x1_2n x1_2c] ⟨false, 0⟩]) (List.length M) 0)) fun x_1 =>
    (Option.bind (intOf? .i64 (AMem.ld ((M ++ [AObj.cells [.int .i64 x0_0, .int .i64 x0_1, .slice x0_2 x0_2n x0_2c] ⟨false, 0⟩]) ++ [AObj.cells [.int .i64 x1_0, .int .i64 x1_1, .slice x1_2 x1_2n x1_2c] ⟨false, 0⟩]) (List.length M) 1)) fun x_2 =>
    (Option.bind (sliceOf? (AMem.ld ((M ++ [AObj.cells [.int .i64 x0_0, .int .i64 x0_1, .slice x0_2 x0_2n x0_2c] ⟨false, 0⟩]) ++ [AObj.cells [.int .i64 x1_0, .int .i64 x1_1, .slice x1_2 x1_2n x1_2c] ⟨false, 0⟩]) (List.length M) 2)) fun s_3 =>
    (Option.bind (intOf? .i64 (AMem.ld ((M ++ [AObj.cells [.int .i64 x0_0, .int .i64 x0_1, .slice x0_2 x0_2n x0_2c] ⟨false, 0⟩]) ++ [AObj.cells [.int .i64 x1_0, .int .i64 x1_1, .slice x1_2 x1_2n x1_2c] ⟨false, 0⟩]) (List.length (M ++ [AObj.cells [.int .i64 x0_0, .int .i64 x0_1, .slice x0_2 x0_2n x0_2c] ⟨false, 0⟩])) 0)) fun x_4 =>
    (Option.bind (intOf? .i64 (AMem.ld ((M ++ [AObj.cells [.int .i64 x0_0, .int .i64 x0_1, .slice x0_2 x0_2n x0_2c] ⟨false, 0⟩]) ++ [AObj.cells [.int .i64 x1_0, .int .i64 x1_1, .slice x1_2 x1_2n x1_2c] ⟨false, 0⟩]) (List.length (M ++ [AObj.cells [.int .i64 x0_0, .int .i64 x0_1, .slice x0_2 x0_2n x0_2c] ⟨false, 0⟩])) 1)) fun x_5 =>
    (Option.bind (sliceOf? (AMem.ld ((M ++ [AObj.cells [.int .i64 x0_0, .int .i64 x0_1, .slice x0_2 x0_2n x0_2c] ⟨false, 0⟩]) ++ [AObj.cells [.int .i64 x1_0, .int .i64 x1_1, .slice x1_2 x1_2n x1_2c] ⟨false, 0⟩]) (List.length (M ++ [AObj.cells [.int .i64 x0_0, .int .i64 x0_1, .slice x0_2 x0_2n x0_2c] ⟨false, 0⟩])) 2)) fun s_6 =>
    (Option.bind (L.call 20 [.agg #[.int .i64 x_1, .int .i64 x_2, .slice s_3.1 s_3.2.1 s_3.2.2], .agg #[.int .i64 x_4, .int .i64 x_5, .slice s_6.1 s_6.2.1 s_6.2.2]] ((M ++ [AObj.cells [.int .i64 x0_0, .int .i64 x0_1, .slice x0_2 x0_2n x0_2c] ⟨false, 0⟩]) ++ [AObj.cells [.int .i64 x1_0, .int .i64 x1_1, .slice x1_2 x1_2n x1_2c] ⟨false, 0⟩])) fun r_7 =>
    (Option.bind (boolOf? (some r_7.1)) fun q_8 =>
    (if (!q_8) = true
    then some (.slice none 0 0, r_7.2)
    else (Option.bind (intOf? .i64 (AMem.ld (r_7.2 ++ [AObj.cells [.slice none 0 0] ⟨false, 0⟩]) (List.length M) 0)) fun x_9 =>
      (Option.bind (intOf? .i64 (AMem.ld (r_7.2 ++ [AObj.cells [.slice none 0 0] ⟨false, 0⟩]) (List.length M) 1)) fun x_10 =>
      (Option.bind (sliceOf? (AMem.ld (r_7.2 ++ [AObj.cells [.slice none 0 0] ⟨false, 0⟩]) (List.length M) 2)) fun s_11 =>
      (Option.bind (intOf? .i64 (AMem.ld (r_7.2 ++ [AObj.cells [.slice none 0 0] ⟨false, 0⟩]) (List.length (M ++ [AObj.cells [.int .i64 x0_0, .int .i64 x0_1, .slice x0_2 x0_2n x0_2c] ⟨false, 0⟩])) 0)) fun x_12 =>
      (Option.bind (intOf? .i64 (AMem.ld (r_7.2 ++ [AObj.cells [.slice none 0 0] ⟨false, 0⟩]) (List.length (M ++ [AObj.cells [.int .i64 x0_0, .int .i64 x0_1, .slice x0_2 x0_2n x0_2c] ⟨false, 0⟩])) 1)) fun x_13 =>
      (Option.bind (sliceOf? (AMem.ld (r_7.2 ++ [AObj.cells [.slice none 0 0] ⟨false, 0⟩]) (List.length (M ++ [AObj.cells [.int .i64 x0_0, .int .i64 x0_1, .slice x0_2 x0_2n x0_2c] ⟨false, 0⟩])) 2)) fun s_14 =>
      (Option.bind (L.call 21 [.agg #[.int .i64 x_9, .int .i64 x_10, .slice s_11.1 s_11.2.1 s_11.2.2], .agg #[.int .i64 x_12, .int .i64 x_13, .slice s_14.1 s_14.2.1 s_14.2.2]] (r_7.2 ++ [AObj.cells [.slice none 0 0] ⟨false, 0⟩])) fun r_15 =>
      (Option.bind (anyOf? (some r_15.1)) fun u_16 =>
      (funK u_16 fun g_21 f_22 c_23 =>
      (Option.bind (L.call g_21 (f_22 ++ [.func (.yield (List.length r_15.2)) #[] #[]] ++ c_23) (r_15.2 ++ [AObj.loop (lo9_16 .ready none 0 (List.length r_7.2) u_16)])) fun r_17 =>
      rangeK (List.length r_15.2) r_17 (fun M_19 =>
      P9_26 L (List.length r_7.2) M_19) (fun e_18 M_20 => (blockK 0 (seqK (code L (.clear [0, 1, 2, 3, 4, 6, 7, 8, 9, 10, 11, 12, 13, 14, 15, 16, 17, 18, 19, 20, 21, 22, 23, 24, 25, 26] c9_26) (retK [.tmp 4])) (retK [.tmp 4]))) e_18 [junk, junk, junk, junk, .slice none 0 0, .pointer (some ⟨(List.length r_7.2), 0, none⟩), junk, junk, junk, junk, junk, junk, junk, junk, u_16, .tuple #[], .tuple #[], junk, junk, junk, junk, junk, junk, junk, junk, junk, junk] M_20)))))))))))))))))))) := QE9 L P9_26 (Classical.choose_spec XP9_26) x0_0 x0_1 x0_2 x0_2n x0_2c x1_0 x1_1 x1_2 x1_2n x1_2c M
/-! #### diff.Apply -/
noncomputable def k11_16 (L : Rec) : KT := blockK 0 (seqK (code L (.clear [0, 1, 2, 3, 4, 5, 7, 9, 10, 11, 12, 13, 14, 15, 16, 17, 18, 19, 20, 21, 22, 23, 24, 25, 26, 27, 28, 29, 30, 31, 32, 33, 34, 35, 36, 37, 38, 39, 40, 41, 42, 43, 44, 45, 46, 47, 48, 49] c11_33) (retK [.cell true [.int .i64, .int .i64, .slice] 6, .tmp 7])) (retK [.cell true [.int .i64, .int .i64, .slice] 6, .tmp 7]))
def s11_16 (x5 : Nat) (x6 : Nat) (x8 : Nat) (x24 : Option Addr) (x24n : Nat) (x24c : Nat) (x25 : Int) (x26 : Int) (M : AMem) : List Value := [junk, junk, junk, junk, junk, .pointer (some ⟨x5, 0, none⟩), .pointer (some ⟨x6, 0, none⟩), junk, .pointer (some ⟨x8, 0, none⟩), junk, junk, junk, junk, junk, junk, junk, junk, junk, junk, junk, junk, junk, junk, junk, .slice x24 x24n x24c, .int .i64 x25, .int .i64 x26, junk, junk, junk, junk, junk, junk, junk, junk, junk, junk, junk, junk, junk, junk, junk, junk, junk, junk, junk, junk, junk, junk, junk]
theorem XP11_16 : ∃ P : Rec → Nat → Nat → Nat → (Option Addr) → Nat → Nat → Int → Int → AMem → Res, P = fun (L : Rec) (x5 : Nat) (x6 : Nat) (x8 : Nat) (x24 : Option Addr) (x24n : Nat) (x24c : Nat) (x25 : Int) (x26 : Int) (M : AMem) => L.loop b11_16 (k11_16 L) (s11_16 x5 x6 x8 x24 x24n x24c x25 x26 M) M := ⟨_, rfl⟩
noncomputable def P11_16 : Rec → Nat → Nat → Nat → (Option Addr) → Nat → Nat → Int → Int → AMem → Res := Classical.choose XP11_16
noncomputable def k11_32 (L : Rec) : KT := postK [0, 1, 2, 3, 4, 7, 9, 10, 11, 12, 13, 14, 15, 16, 17, 18, 19, 20, 21, 22, 23, 27, 28, 29, 30, 31, 32, 33, 34, 35, 36, 37, 38, 39, 40, 41, 42, 43, 44, 45, 46, 47, 48, 49] (loopK L b11_16 (blockK 0 (seqK (code L (.clear [0, 1, 2, 3, 4, 5, 7, 9, 10, 11, 12, 13, 14, 15, 16, 17, 18, 19, 20, 21, 22, 23, 24, 25, 26, 27, 28, 29, 30, 31, 32, 33, 34, 35, 36, 37, 38, 39, 40, 41, 42, 43, 44, 45, 46, 47, 48, 49] c11_33) (retK [.cell true [.int .i64, .int .i64, .slice] 6, .tmp 7])) (retK [.cell true [.int .i64, .int .i64, .slice] 6, .tmp 7]))))
def s11_32 (x5 : Nat) (x6 : Nat) (x8 : Nat) (x24 : Option Addr) (x24n : Nat) (x24c : Nat) (x25 : Int) (x26 : Int) (M : AMem) : List Value := [junk, junk, junk, junk, junk, .pointer (some ⟨x5, 0, none⟩), .pointer (some ⟨x6, 0, none⟩), junk, .pointer (some ⟨x8, 0, none⟩), junk, junk, junk, junk, junk, junk, junk, junk, junk, junk, junk, junk, junk, junk, junk, .slice x24 x24n x24c, .int .i64 x25, .int .i64 x26, junk, junk, junk, junk, junk, junk, junk, junk, junk, junk, junk, junk, junk, junk, junk, junk, junk, junk, junk, junk, junk, junk, junk]
theorem XP11_32 : ∃ P : Rec → Nat → Nat → Nat → (Option Addr) → Nat → Nat → Int → Int → AMem → Res, P = fun (L : Rec) (x5 : Nat) (x6 : Nat) (x8 : Nat) (x24 : Option Addr) (x24n : Nat) (x24c : Nat) (x25 : Int) (x26 : Int) (M : AMem) => code L c11_32 (k11_32 L) (s11_32 x5 x6 x8 x24 x24n x24c x25 x26 M) M := ⟨_, rfl⟩
noncomputable def P11_32 : Rec → Nat → Nat → Nat → (Option Addr) → Nat → Nat → Int → Int → AMem → Res := Classical.choose XP11_32
noncomputable def k11_33 (L : Rec) : KT := retK [.cell true [.int .i64, .int .i64, .slice] 6, .tmp 7]
def s11_33 (x6 : Nat) (x8 : Nat) (M : AMem) : List Value := [junk, junk, junk, junk, junk, junk, .pointer (some ⟨x6, 0, none⟩), junk, .pointer (some ⟨x8, 0, none⟩), junk, junk, junk, junk, junk, junk, junk, junk, junk, junk, junk, junk, junk, junk, junk, junk, junk, junk, junk, junk, junk, junk, junk, junk, junk, junk, junk, junk, junk, junk, junk, junk, junk, junk, junk, junk, junk, junk, junk, junk, junk]
theorem XP11_33 : ∃ P : Rec → Nat → Nat → AMem → Res, P = fun (L : Rec) (x6 : Nat) (x8 : Nat) (M : AMem) => code L c11_33 (k11_33 L) (s11_33 x6 x8 M) M := ⟨_, rfl⟩
noncomputable def P11_33 : Rec → Nat → Nat → AMem → Res := Classical.choose XP11_33
theorem QP11_16_eq (L : Rec) (b11_16 c11_32 c11_33 : ACode) (hb : ∀ K t A, L.loop b11_16 K t A = code L (.post (.seq (.ops o11_18) (.seq (.cond (.tmp 27) (.skip) (.exit 0)) (.seq (.block 1 (.seq (.ops o11_26) (.seq (.ops o11_28) (.cond (.tmp 38) (.draw [] 0 o11_30 []) (.skip))))) (.clear [0, 1, 2, 3, 4, 7, 9, 10, 11, 12, 13, 14, 15, 16, 17, 18, 19, 20, 21, 22, 23, 27, 28, 29, 30, 31, 32, 33, 34, 35, 36, 37, 38, 39, 40, 41, 42, 43, 44, 45, 46, 47, 48, 49] c11_32)))) [0, 1, 2, 3, 4, 7, 9, 10, 11, 12, 13, 14, 15, 16, 17, 18, 19, 20, 21, 22, 23, 27, 28, 29, 30, 31, 32, 33, 34, 35, 36, 37, 38, 39, 40, 41, 42, 43, 44, 45, 46, 47, 48, 49]) (loopK L b11_16 K) t A) (P11_16 : Rec → Nat → Nat → Nat → (Option Addr) → Nat → Nat → Int → Int → AMem → Res) (hP11_16 : P11_16 = fun (L : Rec) (x5 : Nat) (x6 : Nat) (x8 : Nat) (x24 : Option Addr) (x24n : Nat) (x24c : Nat) (x25 : Int) (x26 : Int) (M : AMem) => L.loop b11_16 (blockK 0 (seqK (code L (.clear [0, 1, 2, 3, 4, 5, 7, 9, 10, 11, 12, 13, 14, 15, 16, 17, 18, 19, 20, 21, 22, 23, 24, 25, 26, 27, 28, 29, 30, 31, 32, 33, 34, 35, 36, 37, 38, 39, 40, 41, 42, 43, 44, 45, 46, 47, 48, 49] c11_33) (retK [.cell true [.int .i64, .int .i64, .slice] 6, .tmp 7])) (retK [.cell true [.int .i64, .int .i64, .slice] 6, .tmp 7]))) (s11_16 x5 x6 x8 x24 x24n x24c x25 x26 M) M) (P11_32 : Rec → Nat → Nat → Nat → (Option Addr) → Nat → Nat → Int → Int → AMem → Res) (hP11_32 : P11_32 = fun (L : Rec) (x5 : Nat) (x6 : Nat) (x8 : Nat) (x24 : Option Addr) (x24n : Nat) (x24c : Nat) (x25 : Int) (x26 : Int) (M : AMem) => code L c11_32 (postK [0, 1, 2, 3, 4, 7, 9, 10, 11, 12, 13, 14, 15, 16, 17, 18, 19, 20, 21, 22, 23, 27, 28, 29, 30, 31, 32, 33, 34, 35, 36, 37, 38, 39, 40, 41, 42, 43, 44, 45, 46, 47, 48, 49] (loopK L b11_16 (blockK 0 (seqK (code L (.clear [0, 1, 2, 3, 4, 5, 7, 9, 10, 11, 12, 13, 14, 15, 16, 17, 18, 19, 20, 21, 22, 23, 24, 25, 26, 27, 28, 29, 30, 31, 32, 33, 34, 35, 36, 37, 38, 39, 40, 41, 42, 43, 44, 45, 46, 47, 48, 49] c11_33) (retK [.cell true [.int .i64, .int .i64, .slice] 6, .tmp 7])) (retK [.cell true [.int .i64, .int .i64, .slice] 6, .tmp 7]))))) (s11_32 x5 x6 x8 x24 x24n x24c x25 x26 M) M) (P11_33 : Rec → Nat → Nat → AMem → Res) (hP11_33 : P11_33 = fun (L : Rec) (x6 : Nat) (x8 : Nat) (M : AMem) => code L c11_33 (retK [.cell true [.int .i64, .int .i64, .slice] 6, .tmp 7]) (s11_33 x6 x8 M) M) (x5 : Nat) (x6 : Nat) (x8 : Nat) (x24 : Option Addr) (x24n : Nat) (x24c : Nat) (x25 : Int) (x26 : Int) (M : AMem) : P11_16 L x5 x6 x8 x24 x24n x24c x25 x26 M =
  (if (decide (x26 < x25)) = true
    then (match x24 with
      | some a_1 => (if (0 : Int) ≤ x26 ∧ x26 < (Int.ofNat x24n)
        then (Option.bind (intOf? .i64 (AMem.ld M a_1.block (a_1.off + ((Int.toNat x26) * 1)))) fun x_2 =>
          (if (decide (x_2 ≥ 0)) = true
          then (Option.bind (sliceOf? (AMem.ld M x5 2)) fun s_3 =>
            (if (decide (x_2 < (Int.ofNat s_3.2.1))) = true
            then (Option.bind (sliceOf? (AMem.ld M x8 2)) fun s_4 =>
              (Option.bind (sliceOf? (AMem.ld M x5 2)) fun s_5 =>
              (match s_5.1 with
              | some a_6 => (if (0 : Int) ≤ x_2 ∧ x_2 < (Int.ofNat s_5.2.1)
                then (Option.bind (intOf? .i64 (AMem.ld M a_6.block (a_6.off + ((Int.toNat x_2) * 3)))) fun x_7 =>
                  (Option.bind (intOf? .i64 (AMem.ld M a_6.block ((a_6.off + ((Int.toNat x_2) * 3)) + 1))) fun x_8 =>
                  (Option.bind (intOf? .i64 (AMem.ld M a_6.block ((a_6.off + ((Int.toNat x_2) * 3)) + 2))) fun x_9 =>
                  (match s_4.1 with
                  | some a_10 => (if (0 : Int) ≤ x_2 ∧ x_2 < (Int.ofNat s_4.2.1)
                    then (Option.bind (AMem.wr M a_10.block (a_10.off + ((Int.toNat x_2) * 3)) [.int .i64 x_7, .int .i64 x_8, .int .i64 x_9]) fun M_11 =>
                      P11_32 L x5 x6 x8 x24 x24n x24c x25 x26 M_11)
                    else none)
                  | none => none))))
                else none)
              | none => none)))
            else P11_32 L x5 x6 x8 x24 x24n x24c x25 x26 M))
          else P11_32 L x5 x6 x8 x24 x24n x24c x25 x26 M))
        else none)
      | none => none)
    else P11_33 L x6 x8 M) := by
  subst hP11_16; subst hP11_32; subst hP11_33; exact (hb (blockK 0 (seqK (code L (.clear [0, 1, 2, 3, 4, 5, 7, 9, 10, 11, 12, 13, 14, 15, 16, 17, 18, 19, 20, 21, 22, 23, 24, 25, 26, 27, 28, 29, 30, 31, 32, 33, 34, 35, 36, 37, 38, 39, 40, 41, 42, 43, 44, 45, 46, 47, 48, 49] c11_33) (retK [.cell true [.int .i64, .int .i64, .slice] 6, .tmp 7])) (retK [.cell true [.int .i64, .int .i64, .slice] 6, .tmp 7]))) (s11_16 x5 x6 x8 x24 x24n x24c x25 x26 M) M).trans (by kernel_rfl)
theorem P11_16_eq (L : Rec) (hL : ∀ b K t A, L.loop b K t A = code L b (loopK L b K) t A) (x5 : Nat) (x6 : Nat) (x8 : Nat) (x24 : Option Addr) (x24n : Nat) (x24c : Nat) (x25 : Int) (x26 : Int) (M : AMem) : P11_16 L x5 x6 x8 x24 x24n x24c x25 x26 M =
  (if (decide (x26 < x25)) = true
    then (match x24 with
      | some a_1 => (if (0 : Int) ≤ x26 ∧ x26 < (Int.ofNat x24n)
        then (Option.bind (intOf? .i64 (AMem.ld M a_1.block (a_1.off + ((Int.toNat x26) * 1)))) fun x_2 =>
          (if (decide (x_2 ≥ 0)) = true
          then (Option.bind (sliceOf? (AMem.ld M x5 2)) fun s_3 =>
            (if (decide (x_2 < (Int.ofNat s_3.2.1))) = true
            then (Option.bind (sliceOf? (AMem.ld M x8 2)) fun s_4 =>
              (Option.bind (sliceOf? (AMem.ld M x5 2)) fun s_5 =>
              (match s_5.1 with
              | some a_6 => (if (0 : Int) ≤ x_2 ∧ x_2 < (Int.ofNat s_5.2.1)
                then (Option.bind (intOf? .i64 (AMem.ld M a_6.block (a_6.off + ((Int.toNat x_2) * 3)))) fun x_7 =>
                  (Option.bind (intOf? .i64 (AMem.ld M a_6.block ((a_6.off + ((Int.toNat x_2) * 3)) + 1))) fun x_8 =>
                  (Option.bind (intOf? .i64 (AMem.ld M a_6.block ((a_6.off + ((Int.toNat x_2) * 3)) + 2))) fun x_9 =>
                  (match s_4.1 with
                  | some a_10 => (if (0 : Int) ≤ x_2 ∧ x_2 < (Int.ofNat s_4.2.1)
                    then (Option.bind (AMem.wr M a_10.block (a_10.off + ((Int.toNat x_2) * 3)) [.int .i64 x_7, .int .i64 x_8, .int .i64 x_9]) fun M_11 =>
                      P11_32 L x5 x6 x8 x24 x24n x24c x25 x26 M_11)
                    else none)
                  | none => none))))
                else none)
              | none => none)))
            else P11_32 L x5 x6 x8 x24 x24n x24c x25 x26 M))
          else P11_32 L x5 x6 x8 x24 x24n x24c x25 x26 M))
        else none)
      | none => none)
    else P11_33 L x6 x8 M) := QP11_16_eq L b11_16 c11_32 c11_33 (hL b11_16) P11_16 (Classical.choose_spec XP11_16) P11_32 (Classical.choose_spec XP11_32) P11_33 (Classical.choose_spec XP11_33) x5 x6 x8 x24 x24n x24c x25 x26 M
theorem QP11_32_eq (L : Rec) (b11_16 c11_33 : ACode) (P11_16 : Rec → Nat → Nat → Nat → (Option Addr) → Nat → Nat → Int → Int → AMem → Res) (hP11_16 : P11_16 = fun (L : Rec) (x5 : Nat) (x6 : Nat) (x8 : Nat) (x24 : Option Addr) (x24n : Nat) (x24c : Nat) (x25 : Int) (x26 : Int) (M : AMem) => L.loop b11_16 (blockK 0 (seqK (code L (.clear [0, 1, 2, 3, 4, 5, 7, 9, 10, 11, 12, 13, 14, 15, 16, 17, 18, 19, 20, 21, 22, 23, 24, 25, 26, 27, 28, 29, 30, 31, 32, 33, 34, 35, 36, 37, 38, 39, 40, 41, 42, 43, 44, 45, 46, 47, 48, 49] c11_33) (retK [.cell true [.int .i64, .int .i64, .slice] 6, .tmp 7])) (retK [.cell true [.int .i64, .int .i64, .slice] 6, .tmp 7]))) (s11_16 x5 x6 x8 x24 x24n x24c x25 x26 M) M) (P11_32 : Rec → Nat → Nat → Nat → (Option Addr) → Nat → Nat → Int → Int → AMem → Res) (hP11_32 : P11_32 = fun (L : Rec) (x5 : Nat) (x6 : Nat) (x8 : Nat) (x24 : Option Addr) (x24n : Nat) (x24c : Nat) (x25 : Int) (x26 : Int) (M : AMem) => code L (.ops o11_32) (postK [0, 1, 2, 3, 4, 7, 9, 10, 11, 12, 13, 14, 15, 16, 17, 18, 19, 20, 21, 22, 23, 27, 28, 29, 30, 31, 32, 33, 34, 35, 36, 37, 38, 39, 40, 41, 42, 43, 44, 45, 46, 47, 48, 49] (loopK L b11_16 (blockK 0 (seqK (code L (.clear [0, 1, 2, 3, 4, 5, 7, 9, 10, 11, 12, 13, 14, 15, 16, 17, 18, 19, 20, 21, 22, 23, 24, 25, 26, 27, 28, 29, 30, 31, 32, 33, 34, 35, 36, 37, 38, 39, 40, 41, 42, 43, 44, 45, 46, 47, 48, 49] c11_33) (retK [.cell true [.int .i64, .int .i64, .slice] 6, .tmp 7])) (retK [.cell true [.int .i64, .int .i64, .slice] 6, .tmp 7]))))) (s11_32 x5 x6 x8 x24 x24n x24c x25 x26 M) M) (x5 : Nat) (x6 : Nat) (x8 : Nat) (x24 : Option Addr) (x24n : Nat) (x24c : Nat) (x25 : Int) (x26 : Int) (M : AMem) : P11_32 L x5 x6 x8 x24 x24n x24c x25 x26 M =
  P11_16 L x5 x6 x8 x24 x24n x24c x25 (IntKind.wrap .i64 (x26 + 1)) M := by
  subst hP11_16; subst hP11_32; kernel_rfl
theorem P11_32_eq (L : Rec) (x5 : Nat) (x6 : Nat) (x8 : Nat) (x24 : Option Addr) (x24n : Nat) (x24c : Nat) (x25 : Int) (x26 : Int) (M : AMem) : P11_32 L x5 x6 x8 x24 x24n x24c x25 x26 M =
  P11_16 L x5 x6 x8 x24 x24n x24c x25 (IntKind.wrap .i64 (x26 + 1)) M := QP11_32_eq L b11_16 c11_33 P11_16 (Classical.choose_spec XP11_16) P11_32 (Classical.choose_spec XP11_32) x5 x6 x8 x24 x24n x24c x25 x26 M
theorem QP11_33_eq (L : Rec) (P11_33 : Rec → Nat → Nat → AMem → Res) (hP11_33 : P11_33 = fun (L : Rec) (x6 : Nat) (x8 : Nat) (M : AMem) => code L (.seq (.ops o11_34) (.ret)) (retK [.cell true [.int .i64, .int .i64, .slice] 6, .tmp 7]) (s11_33 x6 x8 M) M) (x6 : Nat) (x8 : Nat) (M : AMem) : P11_33 L x6 x8 M =
  (Option.bind (intOf? .i64 (AMem.ld M x8 0)) fun x_1 =>
    (Option.bind (intOf? .i64 (AMem.ld M x8 1)) fun x_2 =>
    (Option.bind (sliceOf? (AMem.ld M x8 2)) fun s_3 =>
    (Option.bind (AMem.wr M x6 0 [.int .i64 x_1, .int .i64 x_2, .slice s_3.1 s_3.2.1 s_3.2.2]) fun M_4 =>
    (Option.bind (intOf? .i64 (AMem.ld M_4 x6 0)) fun x_5 =>
    (Option.bind (intOf? .i64 (AMem.ld M_4 x6 1)) fun x_6 =>
    (Option.bind (sliceOf? (AMem.ld M_4 x6 2)) fun s_7 =>
    some (.tuple #[.agg #[.int .i64 x_5, .int .i64 x_6, .slice s_7.1 s_7.2.1 s_7.2.2], .bool true], M_4)))))))) := by
  subst hP11_33; kernel_rfl
theorem P11_33_eq (L : Rec) (x6 : Nat) (x8 : Nat) (M : AMem) : P11_33 L x6 x8 M =
  (Option.bind (intOf? .i64 (AMem.ld M x8 0)) fun x_1 =>
    (Option.bind (intOf? .i64 (AMem.ld M x8 1)) fun x_2 =>
    (Option.bind (sliceOf? (AMem.ld M x8 2)) fun s_3 =>
    (Option.bind (AMem.wr M x6 0 [.int .i64 x_1, .int .i64 x_2, .slice s_3.1 s_3.2.1 s_3.2.2]) fun M_4 =>
    (Option.bind (intOf? .i64 (AMem.ld M_4 x6 0)) fun x_5 =>
    (Option.bind (intOf? .i64 (AMem.ld M_4 x6 1)) fun x_6 =>
    (Option.bind (sliceOf? (AMem.ld M_4 x6 2)) fun s_7 =>
    some (.tuple #[.agg #[.int .i64 x_5, .int .i64 x_6, .slice s_7.1 s_7.2.1 s_7.2.2], .bool true], M_4)))))))) := QP11_33_eq L P11_33 (Classical.choose_spec XP11_33) x6 x8 M
theorem QE11 (L : Rec) (b11_16 c11_33 : ACode) (P11_16 : Rec → Nat → Nat → Nat → (Option Addr) → Nat → Nat → Int → Int → AMem → Res) (hP11_16 : P11_16 = fun (L : Rec) (x5 : Nat) (x6 : Nat) (x8 : Nat) (x24 : Option Addr) (x24n : Nat) (x24c : Nat) (x25 : Int) (x26 : Int) (M : AMem) => L.loop b11_16 (blockK 0 (seqK (code L (.clear [0, 1, 2, 3, 4, 5, 7, 9, 10, 11, 12, 13, 14, 15, 16, 17, 18, 19, 20, 21, 22, 23, 24, 25, 26, 27, 28, 29, 30, 31, 32, 33, 34, 35, 36, 37, 38, 39, 40, 41, 42, 43, 44, 45, 46, 47, 48, 49] c11_33) (retK [.cell true [.int .i64, .int .i64, .slice] 6, .tmp 7])) (retK [.cell true [.int .i64, .int .i64, .slice] 6, .tmp 7]))) (s11_16 x5 x6 x8 x24 x24n x24c x25 x26 M) M) (x0_0 : Int) (x0_1 : Int) (x0_2 : Option Addr) (x0_2n : Nat) (x0_2c : Nat) (x1 : Option Addr) (x1n : Nat) (x1c : Nat) (x2_0 : Int) (x2_1 : Int) (x2_2 : Option Addr) (x2_2n : Nat) (x2_2c : Nat) (M : AMem) : enterF L ⟨50, [.cell true [.int .i64, .int .i64, .slice] 6, .tmp 7], .seq (.ops o11_1) (.seq (.seq (.ops o11_4) (.cond (.tmp 14) (.seq (.ops o11_7) (.ret)) (.skip))) (.seq (.draw f11_11 0 o11_11 [(1, 6), (3, 6), (8, 6)]) (.seq (.seq (.ops o11_14) (.block 0 (.clear [0, 1, 2, 3, 4, 7, 9, 10, 11, 12, 13, 14, 15, 16, 17, 18, 19, 20, 21, 22, 23, 27, 28, 29, 30, 31, 32, 33, 34, 35, 36, 37, 38, 39, 40, 41, 42, 43, 44, 45, 46, 47, 48, 49] (.loop b11_16)))) (.clear [0, 1, 2, 3, 4, 5, 7, 9, 10, 11, 12, 13, 14, 15, 16, 17, 18, 19, 20, 21, 22, 23, 24, 25, 26, 27, 28, 29, 30, 31, 32, 33, 34, 35, 36, 37, 38, 39, 40, 41, 42, 43, 44, 45, 46, 47, 48, 49] c11_33))))⟩ [.agg #[.int .i64 x0_0, .int .i64 x0_1, .slice x0_2 x0_2n x0_2c], .slice x1 x1n x1c, .agg #[.int .i64 x2_0, .int .i64 x2_1, .slice x2_2 x2_2n x2_2c]] M =
  (Option.bind (intOf? .i64 (AMem.ld (((M ++ [AObj.cells [.int .i64 x0_0, .int .i64 x0_1, .slice x0_2 x0_2n x0_2c] ⟨false, 0⟩]) ++ [AObj.cells [.int .i64 x2_0, .int .i64 x2_1, .slice x2_2 x2_2n x2_2c] ⟨false, 0⟩]) ++ [AObj.cells [.int .i64 0, .int .i64 0, .slice none 0 0] ⟨false, 0⟩]) (List.length M) 0)) fun x_1 =>
    (Option.bind (intOf? .i64 (AMem.ld (((M ++ [AObj.cells [.int .i64 x0_0, .int .i64 x0_1, .slice x0_2 x0_2n x0_2c] ⟨false, 0⟩]) ++ [AObj.cells [.int .i64 x2_0, .int .i64 x2_1, .slice x2_2 x2_2n x2_2c] ⟨false, 0⟩]) ++ [AObj.cells [.int .i64 0, .int .i64 0, .slice none 0 0] ⟨false, 0⟩]) (List.length M) 1)) fun x_2 =>
    (Option.bind (sliceOf? (AMem.ld (((M ++ [AObj.cells [.int .i64 x0_0, .int .i64 x0_1, .slice x0_2 x0_2n x0_2c] ⟨false, 0⟩]) ++ [AObj.cells [.int .i64 x2_0, .int .i64 x2_1, .slice x2_2 x2_2n x2_2c] ⟨false, 0⟩]) ++ [AObj.cells [.int .i64 0, .int .i64 0, .slice none 0 0] ⟨false, 0⟩]) (List.length M) 2)) fun s_3 =>
    (Option.bind (intOf? .i64 (AMem.ld (((M ++ [AObj.cells [.int .i64 x0_0, .int .i64 x0_1, .slice x0_2 x0_2n x0_2c] ⟨false, 0⟩]) ++ [AObj.cells [.int .i64 x2_0, .int .i64 x2_1, .slice x2_2 x2_2n x2_2c] ⟨false, 0⟩]) ++ [AObj.cells [.int .i64 0, .int .i64 0, .slice none 0 0] ⟨false, 0⟩]) (List.length (M ++ [AObj.cells [.int .i64 x0_0, .int .i64 x0_1, .slice x0_2 x0_2n x0_2c] ⟨false, 0⟩])) 0)) fun x_4 =>
    (Option.bind (intOf? .i64 (AMem.ld (((M ++ [AObj.cells [.int .i64 x0_0, .int .i64 x0_1, .slice x0_2 x0_2n x0_2c] ⟨false, 0⟩]) ++ [AObj.cells [.int .i64 x2_0, .int .i64 x2_1, .slice x2_2 x2_2n x2_2c] ⟨false, 0⟩]) ++ [AObj.cells [.int .i64 0, .int .i64 0, .slice none 0 0] ⟨false, 0⟩]) (List.length (M ++ [AObj.cells [.int .i64 x0_0, .int .i64 x0_1, .slice x0_2 x0_2n x0_2c] ⟨false, 0⟩])) 1)) fun x_5 =>
    (Option.bind (sliceOf? (AMem.ld (((M ++ [AObj.cells [.int .i64 x0_0, .int .i64 x0_1, .slice x0_2 x0_2n x0_2c] ⟨false, 0⟩]) ++ [AObj.cells [.int .i64 x2_0, .int .i64 x2_1, .slice x2_2 x2_2n x2_2c] ⟨false, 0⟩]) ++ [AObj.cells [.int .i64 0, .int .i64 0, .slice none 0 0] ⟨false, 0⟩]) (List.length (M ++ [AObj.cells [.int .i64 x0_0, .int .i64 x0_1, .slice x0_2 x0_2n x0_2c] ⟨false, 0⟩])) 2)) fun s_6 =>
    (Option.bind (L.call 20 [.agg #[.int .i64 x_1, .int .i64 x_2, .slice s_3.1 s_3.2.1 s_3.2.2], .agg #[.int .i64 x_4, .int .i64 x_5, .slice s_6.1 s_6.2.1 s_6.2.2]] (((M ++ [AObj.cells [.int .i64 x0_0, .int .i64 x0_1, .slice x0_2 x0_2n x0_2c] ⟨false, 0⟩]) ++ [AObj.cells [.int .i64 x2_0, .int .i64 x2_1, .slice x2_2 x2_2n x2_2c] ⟨false, 0⟩]) ++ [AObj.cells [.int .i64 0, .int .i64 0, .slice none 0 0] ⟨false, 0⟩])) fun r_7 =>
    (Option.bind (boolOf? (some r_7.1)) fun q_8 =>
    (if (!q_8) = true
    then (Option.bind (AMem.wr r_7.2 (List.length ((M ++ [AObj.cells [.int .i64 x0_0, .int .i64 x0_1, .slice x0_2 x0_2n x0_2c] ⟨false, 0⟩]) ++ [AObj.cells [.int .i64 x2_0, .int .i64 x2_1, .slice x2_2 x2_2n x2_2c] ⟨false, 0⟩])) 0 [.int .i64 0, .int .i64 0, .slice none 0 0]) fun M_9 =>
      (Option.bind (intOf? .i64 (AMem.ld M_9 (List.length ((M ++ [AObj.cells [.int .i64 x0_0, .int .i64 x0_1, .slice x0_2 x0_2n x0_2c] ⟨false, 0⟩]) ++ [AObj.cells [.int .i64 x2_0, .int .i64 x2_1, .slice x2_2 x2_2n x2_2c] ⟨false, 0⟩])) 0)) fun x_10 =>
      (Option.bind (intOf? .i64 (AMem.ld M_9 (List.length ((M ++ [AObj.cells [.int .i64 x0_0, .int .i64 x0_1, .slice x0_2 x0_2n x0_2c] ⟨false, 0⟩]) ++ [AObj.cells [.int .i64 x2_0, .int .i64 x2_1, .slice x2_2 x2_2n x2_2c] ⟨false, 0⟩])) 1)) fun x_11 =>
      (Option.bind (sliceOf? (AMem.ld M_9 (List.length ((M ++ [AObj.cells [.int .i64 x0_0, .int .i64 x0_1, .slice x0_2 x0_2n x0_2c] ⟨false, 0⟩]) ++ [AObj.cells [.int .i64 x2_0, .int .i64 x2_1, .slice x2_2 x2_2n x2_2c] ⟨false, 0⟩])) 2)) fun s_12 =>
      some (.tuple #[.agg #[.int .i64 x_10, .int .i64 x_11, .slice s_12.1 s_12.2.1 s_12.2.2], .bool false], M_9)))))
    else (Option.bind (intOf? .i64 (AMem.ld (r_7.2 ++ [AObj.cells [.int .i64 0, .int .i64 0, .slice none 0 0] ⟨false, 0⟩]) (List.length M) 0)) fun x_13 =>
      (Option.bind (intOf? .i64 (AMem.ld (r_7.2 ++ [AObj.cells [.int .i64 0, .int .i64 0, .slice none 0 0] ⟨false, 0⟩]) (List.length M) 1)) fun x_14 =>
      (Option.bind (sliceOf? (AMem.ld (r_7.2 ++ [AObj.cells [.int .i64 0, .int .i64 0, .slice none 0 0] ⟨false, 0⟩]) (List.length M) 2)) fun s_15 =>
      (Option.bind (L.call 22 [.slice s_15.1 s_15.2.1 s_15.2.2] (r_7.2 ++ [AObj.cells [.int .i64 0, .int .i64 0, .slice none 0 0] ⟨false, 0⟩])) fun r_16 =>
      (Option.bind (sliceOf? (some r_16.1)) fun s_17 =>
      (Option.bind (AMem.wr r_16.2 (List.length r_7.2) 0 [.int .i64 x_13, .int .i64 x_14, .slice s_17.1 s_17.2.1 s_17.2.2]) fun M_18 =>
      (if chkOk [(1, 6), (3, 6), (8, 6)] [(8, (List.length r_7.2)), (3, (List.length M)), (1, (List.length M))] [(6, ((r_7.2 ++ [AObj.cells [.int .i64 0, .int .i64 0, .slice none 0 0] ⟨false, 0⟩]), r_16.2))] = true
      then P11_16 L (List.length (M ++ [AObj.cells [.int .i64 x0_0, .int .i64 x0_1, .slice x0_2 x0_2n x0_2c] ⟨false, 0⟩])) (List.length ((M ++ [AObj.cells [.int .i64 x0_0, .int .i64 x0_1, .slice x0_2 x0_2n x0_2c] ⟨false, 0⟩]) ++ [AObj.cells [.int .i64 x2_0, .int .i64 x2_1, .slice x2_2 x2_2n x2_2c] ⟨false, 0⟩])) (List.length r_7.2) x1 x1n x1c (Int.ofNat x1n) 0 M_18
      else none)))))))))))))))) := by
  subst hP11_16; kernel_rfl
theorem E11 (L : Rec) (x0_0 : Int) (x0_1 : Int) (x0_2 : Option Addr) (x0_2n : Nat) (x0_2c : Nat) (x1 : Option Addr) (x1n : Nat) (x1c : Nat) (x2_0 : Int) (x2_1 : Int) (x2_2 : Option Addr) (x2_2n : Nat) (x2_2c : Nat) (M : AMem) : enterF L a11 [.agg #[.int .i64 x0_0, .int .i64 x0_1, .slice x0_2 x0_2n x0_2c], .slice x1 x1n x1c, .agg #[.int .i64 x2_0, .int .i64 x2_1, .slice x2_2 x2_2n x2_2c]] M =
  (Option.bind (intOf? .i64 (AMem.ld (((M ++ [AObj.cells [.int .i64 x0_0, .int .i64 x0_1, .slice x0_2 x0_2n x0_2c] ⟨false, 0⟩]) ++ [AObj.cells [.int .i64 x2_0, .int .i64 x2_1, .slice x2_2 x2_2n x2_2c] ⟨false, 0⟩]) ++ [AObj.cells [.int .i64 0, .int .i64 0, .slice none 0 0] ⟨false, 0⟩]) (List.length M) 0)) fun x_1 =>
    (Option.bind (intOf? .i64 (AMem.ld (((M ++ [AObj.cells [.int .i64 x0_0, .int .i64 x0_1, .slice x0_2 x0_2n x0_2c] ⟨false, 0⟩]) ++ [AObj.cells [.int .i64 x2_0, .int .i64 x2_1, .slice x2_2 x2_2n x2_2c] ⟨false, 0⟩]) ++ [AObj.cells [.int .i64 0, .int .i64 0, .slice none 0 0] ⟨false, 0⟩]) (List.length M) 1)) fun x_2 =>
    (Option.bind (sliceOf? (AMem.ld (((M ++ [AObj.cells [.int .i64 x0_0, .int .i64 x0_1, .slice x0_2 x0_2n x0_2c] ⟨false, 0⟩]) ++ [AObj.cells [.int .i64 x2_0, .int .i64 x2_1, .slice x2_2 x2_2n x2_2c] ⟨false, 0⟩]) ++ [AObj.cells [.int .i64 0, .int .i64 0, .slice none 0 0] ⟨false, 0⟩]) (List.length M) 2)) fun s_3 =>
    (Option.bind (intOf? .i64 (AMem.ld (((M ++ [AObj.cells [.int .i64 x0_0, .int .i64 x0_1, .slice x0_2 x0_2n x0_2c] ⟨false, 0⟩]) ++ [AObj.cells [.int .i64 x2_0, .int .i64 x2_1, .slice x2_2 x2_2n x2_2c] ⟨false, 0⟩]) ++ [AObj.cells [.int .i64 0, .int .i64 0, .slice none 0 0] ⟨false, 0⟩]) (List.length (M ++ [AObj.cells [.int .i64 x0_0, .int .i64 x0_1, .slice x0_2 x0_2n x0_2c] ⟨false, 0⟩])) 0)) fun x_4 =>
    (Option.bind (intOf? .i64 (AMem.ld (((M ++ [AObj.cells [.int .i64 x0_0, .int .i64 x0_1, .slice x0_2 x0_2n x0_2c] ⟨false, 0⟩]) ++ [AObj.cells [.int .i64 x2_0, .int .i64 x2_1, .slice x2_2 x2_2n x2_2c] ⟨false, 0⟩]) ++ [AObj.cells [.int .i64 0, .int .i64 0, .slice none 0 0] ⟨false, 0⟩]) (List.length (M ++ [AObj.cells [.int .i64 x0_0, .int .i64 x0_1, .slice x0_2 x0_2n x0_2c] ⟨false, 0⟩])) 1)) fun x_5 =>
    (Option.bind (sliceOf? (AMem.ld (((M ++ [AObj.cells [.int .i64 x0_0, .int .i64 x0_1, .slice x0_2 x0_2n x0_2c] ⟨false, 0⟩]) ++ [AObj.cells [.int .i64 x2_0, .int .i64 x2_1, .slice x2_2 x2_2n x2_2c] ⟨false, 0⟩]) ++ [AObj.cells [.int .i64 0, .int .i64 0, .slice none 0 0] ⟨false, 0⟩]) (List.length (M ++ [AObj.cells [.int .i64 x0_0, .int .i64 x0_1, .slice x0_2 x0_2n x0_2c] ⟨false, 0⟩])) 2)) fun s_6 =>
    (Option.bind (L.call 20 [.agg #[.int .i64 x_1, .int .i64 x_2, .slice s_3.1 s_3.2.1 s_3.2.2], .agg #[.int .i64 x_4, .int .i64 x_5, .slice s_6.1 s_6.2.1 s_6.2.2]] (((M ++ [AObj.cells [.int .i64 x0_0, .int .i64 x0_1, .slice x0_2 x0_2n x0_2c] ⟨false, 0⟩]) ++ [AObj.cells [.int .i64 x2_0, .int .i64 x2_1, .slice x2_2 x2_2n x2_2c] ⟨false, 0⟩]) ++ [AObj.cells [.int .i64 0, .int .i64 0, .slice none 0 0] ⟨false, 0⟩])) fun r_7 =>
    (Option.bind (boolOf? (some r_7.1)) fun q_8 =>
    (if (!q_8) = true
    then (Option.bind (AMem.wr r_7.2 (List.length ((M ++ [AObj.cells [.int .i64 x0_0, .int .i64 x0_1, .slice x0_2 x0_2n x0_2c] ⟨false, 0⟩]) ++ [AObj.cells [.int .i64 x2_0, .int .i64 x2_1, .slice x2_2 x2_2n x2_2c] ⟨false, 0⟩])) 0 [.int .i64 0, .int .i64 0, .slice none 0 0]) fun M_9 =>
      (Option.bind (intOf? .i64 (AMem.ld M_9 (List.length ((M ++ [AObj.cells [.int .i64 x0_0, .int .i64 x0_1, .slice x0_2 x0_2n x0_2c] ⟨false, 0⟩]) ++ [AObj.cells [.int .i64 x2_0, .int .i64 x2_1, .slice x2_2 x2_2n x2_2c] ⟨false, 0⟩])) 0)) fun x_10 =>
      (Option.bind (intOf? .i64 (AMem.ld M_9 (List.length ((M ++ [AObj.cells [.int .i64 x0_0, .int .i64 x0_1, .slice x0_2 x0_2n x0_2c] ⟨false, 0⟩]) ++ [AObj.cells [.int .i64 x2_0, .int .i64 x2_1, .slice x2_2 x2_2n x2_2c] ⟨false, 0⟩])) 1)) fun x_11 =>
      (Option.bind (sliceOf? (AMem.ld M_9 (List.length ((M ++ [AObj.cells [.int .i64 x0_0, .int .i64 x0_1, .slice x0_2 x0_2n x0_2c] ⟨false, 0⟩]) ++ [AObj.cells [.int .i64 x2_0, .int .i64 x2_1, .slice x2_2 x2_2n x2_2c] ⟨false, 0⟩])) 2)) fun s_12 =>
      some (.tuple #[.agg #[.int .i64 x_10, .int .i64 x_11, .slice s_12.1 s_12.2.1 s_12.2.2], .bool false], M_9)))))
    else (Option.bind (intOf? .i64 (AMem.ld (r_7.2 ++ [AObj.cells [.int .i64 0, .int .i64 0, .slice none 0 0] ⟨false, 0⟩]) (List.length M) 0)) fun x_13 =>
      (Option.bind (intOf? .i64 (AMem.ld (r_7.2 ++ [AObj.cells [.int .i64 0, .int .i64 0, .slice none 0 0] ⟨false, 0⟩]) (List.length M) 1)) fun x_14 =>
      (Option.bind (sliceOf? (AMem.ld (r_7.2 ++ [AObj.cells [.int .i64 0, .int .i64 0, .slice none 0 0] ⟨false, 0⟩]) (List.length M) 2)) fun s_15 =>
      (Option.bind (L.call 22 [.slice s_15.1 s_15.2.1 s_15.2.2] (r_7.2 ++ [AObj.cells [.int .i64 0, .int .i64 0, .slice none 0 0] ⟨false, 0⟩])) fun r_16 =>
      (Option.bind (sliceOf? (some r_16.1)) fun s_17 =>
      (Option.bind (AMem.wr r_16.2 (List.length r_7.2) 0 [.int .i64 x_13, .int .i64 x_14, .slice s_17.1 s_17.2.1 s_17.2.2]) fun M_18 =>
      (if chkOk [(1, 6), (3, 6), (8, 6)] [(8, (List.length r_7.2)), (3, (List.length M)), (1, (List.length M))] [(6, ((r_7.2 ++ [AObj.cells [.int .i64 0, .int .i64 0, .slice none 0 0] ⟨false, 0⟩]), r_16.2))] = true
      then P11_16 L (List.length (M ++ [AObj.cells [.int .i64 x0_0, .int .i64 x0_1, .slice x0_2 x0_2n x0_2c] ⟨false, 0⟩])) (List.length ((M ++ [AObj.cells [.int .i64 x0_0, .int .i64 x0_1, .slice x0_2 x0_2n x0_2c] ⟨false, 0⟩]) ++ [AObj.cells [.int .i64 x2_0, .int .i64 x2_1, .slice x2_2 x2_2n x2_2c] ⟨false, 0⟩])) (List.length r_7.2) x1 x1n x1c (Int.ofNat x1n) 0 M_18
      else none)))))))))))))))) := QE11 L b11_16 c11_33 P11_16 (Classical.choose_spec XP11_16) x0_0 x0_1 x0_2 x0_2n x0_2c x1 x1n x1c x2_0 x2_1 x2_2 x2_2n x2_2c M
/-! #### diff.Mix -/
noncomputable def k13_37 (L : Rec) : KT := retK [.cell true [.int .i64, .int .i64, .slice] 6, .tmp 7]
def s13_37 (x6 : Nat) (x8 : Nat) (M : AMem) : List Value := [junk, junk, junk, junk, junk, junk, .pointer (some ⟨x6, 0, none⟩), junk, .pointer (some ⟨x8, 0, none⟩), junk, junk, junk, junk, junk, junk, junk, junk, junk, junk, junk, junk, junk, junk, junk, junk, junk, junk, junk, junk, junk, junk, junk, junk, junk, junk, junk, junk, junk, junk, junk, junk, junk, junk, junk, junk, junk, junk, junk, junk, junk, junk, junk, junk, junk, junk, junk, junk, junk, junk, junk, junk, junk, junk, junk, junk, junk]
theorem XP13_37 : ∃ P : Rec → Nat → Nat → AMem → Res, P = fun (L : Rec) (x6 : Nat) (x8 : Nat) (M : AMem) => code L c13_37 (k13_37 L) (s13_37 x6 x8 M) M := ⟨_, rfl⟩
noncomputable def P13_37 : Rec → Nat → Nat → AMem → Res := Classical.choose XP13_37
noncomputable def k13_24 (L : Rec) (l : Nat) : KT := blockK 2 (blockK 1 (roundK l))
def s13_24 (l : Nat) (x5 : Nat) (x8 : Nat) (x9 : Int) (x10 : Nat) (x41_0 : Int) (x41_1 : Int) (x41_2 : Int) (x42 : Int) (M : AMem) : List Value := [junk, junk, junk, junk, junk, .pointer (some ⟨x5, 0, none⟩), junk, junk, .pointer (some ⟨x8, 0, none⟩), .int .i64 x9, .pointer (some ⟨x10, 0, none⟩), junk, junk, junk, junk, junk, junk, junk, junk, junk, junk, junk, junk, junk, junk, junk, junk, junk, junk, junk, junk, junk, junk, junk, junk, junk, junk, junk, junk, junk, junk, .agg #[.int .i64 x41_0, .int .i64 x41_1, .int .i64 x41_2], .int .i64 x42, junk, junk, junk, junk, junk, junk, junk, junk, junk, junk, junk, junk, junk, junk, junk, junk, junk, junk, junk, junk, junk, junk, junk]
theorem XP13_24 : ∃ P : Rec → Nat → Nat → Nat → Int → Nat → Int → Int → Int → Int → AMem → Res, P = fun (L : Rec) (l : Nat) (x5 : Nat) (x8 : Nat) (x9 : Int) (x10 : Nat) (x41_0 : Int) (x41_1 : Int) (x41_2 : Int) (x42 : Int) (M : AMem) => L.loop b13_24 (k13_24 L l) (s13_24 l x5 x8 x9 x10 x41_0 x41_1 x41_2 x42 M) M := ⟨_, rfl⟩
noncomputable def P13_24 : Rec → Nat → Nat → Nat → Int → Nat → Int → Int → Int → Int → AMem → Res := Classical.choose XP13_24
noncomputable def k13_36 (L : Rec) (l : Nat) : KT := postK [0, 1, 2, 3, 4, 6, 7, 11, 12, 13, 14, 15, 16, 17, 18, 19, 20, 21, 22, 23, 24, 25, 26, 27, 28, 29, 30, 31, 32, 33, 34, 35, 36, 37, 38, 39, 40, 43, 44, 45, 46, 47, 48, 49, 50, 51, 52, 53, 54, 55, 56, 57, 58, 59, 60, 61, 62, 63, 64, 65] (loopK L b13_24 (blockK 2 (blockK 1 (roundK l))))
def s13_36 (l : Nat) (x5 : Nat) (x8 : Nat) (x9 : Int) (x10 : Nat) (x41_0 : Int) (x41_1 : Int) (x41_2 : Int) (x42 : Int) (M : AMem) : List Value := [junk, junk, junk, junk, junk, .pointer (some ⟨x5, 0, none⟩), junk, junk, .pointer (some ⟨x8, 0, none⟩), .int .i64 x9, .pointer (some ⟨x10, 0, none⟩), junk, junk, junk, junk, junk, junk, junk, junk, junk, junk, junk, junk, junk, junk, junk, junk, junk, junk, junk, junk, junk, junk, junk, junk, junk, junk, junk, junk, junk, junk, .agg #[.int .i64 x41_0, .int .i64 x41_1, .int .i64 x41_2], .int .i64 x42, junk, junk, junk, junk, junk, junk, junk, junk, junk, junk, junk, junk, junk, junk, junk, junk, junk, junk, junk, junk, junk, junk, junk]
theorem XP13_36 : ∃ P : Rec → Nat → Nat → Nat → Int → Nat → Int → Int → Int → Int → AMem → Res, P = fun (L : Rec) (l : Nat) (x5 : Nat) (x8 : Nat) (x9 : Int) (x10 : Nat) (x41_0 : Int) (x41_1 : Int) (x41_2 : Int) (x42 : Int) (M : AMem) => code L c13_36 (k13_36 L l) (s13_36 l x5 x8 x9 x10 x41_0 x41_1 x41_2 x42 M) M := ⟨_, rfl⟩
noncomputable def P13_36 : Rec → Nat → Nat → Nat → Int → Nat → Int → Int → Int → Int → AMem → Res := Classical.choose XP13_36
noncomputable def k13_16 (L : Rec) (l : Nat) : KT := roundK l
def s13_16 (l : Nat) (x5 : Nat) (x6 : Nat) (x7 : Bool) (x8 : Nat) (x37 : Value) (y0 : Int) (y1_0 : Int) (y1_1 : Int) (y1_2 : Int) (y1_3 : Int) (y1_4 : Int) (y1_5 : Int) (z : Nat) (M : AMem) : List Value := [junk, junk, junk, junk, junk, .pointer (some ⟨x5, 0, none⟩), .pointer (some ⟨x6, 0, none⟩), .bool x7, .pointer (some ⟨x8, 0, none⟩), .int .i64 y0, .pointer (some ⟨z, 0, none⟩), junk, junk, junk, junk, junk, junk, junk, junk, junk, junk, junk, junk, junk, junk, junk, junk, junk, junk, junk, junk, junk, junk, junk, junk, junk, junk, x37, .int .i64 y0, .agg #[.int .i64 y1_0, .int .i64 y1_1, .int .i64 y1_2, .int .i64 y1_3, .int .i64 y1_4, .int .i64 y1_5], junk, junk, junk, junk, junk, junk, junk, junk, junk, junk, junk, junk, junk, junk, junk, junk, junk, junk, junk, junk, junk, junk, junk, junk, junk, junk]
def lo13_16 (s : LoopState) (pe : Option AExit) (x5 : Nat) (x6 : Nat) (x7 : Bool) (x8 : Nat) (x37 : Value) : ALoop := ⟨s, pe, [junk, junk, junk, junk, junk, .pointer (some ⟨x5, 0, none⟩), .pointer (some ⟨x6, 0, none⟩), .bool x7, .pointer (some ⟨x8, 0, none⟩), junk, junk, junk, junk, junk, junk, junk, junk, junk, junk, junk, junk, junk, junk, junk, junk, junk, junk, junk, junk, junk, junk, junk, junk, junk, junk, junk, junk, x37, .tuple #[], .tuple #[], junk, junk, junk, junk, junk, junk, junk, junk, junk, junk, junk, junk, junk, junk, junk, junk, junk, junk, junk, junk, junk, junk, junk, junk, junk, junk], [38, 39], .seq (.ops o13_18) (.ops o13_19), b13_16⟩
theorem XP13_16 : ∃ P : Rec → Nat → Nat → Nat → Bool → Nat → Value → Int → Int → Int → Int → Int → Int → Int → Nat → AMem → Res, P = fun (L : Rec) (l : Nat) (x5 : Nat) (x6 : Nat) (x7 : Bool) (x8 : Nat) (x37 : Value) (y0 : Int) (y1_0 : Int) (y1_1 : Int) (y1_2 : Int) (y1_3 : Int) (y1_4 : Int) (y1_5 : Int) (z : Nat) (M : AMem) => code L b13_16 (k13_16 L l) (s13_16 l x5 x6 x7 x8 x37 y0 y1_0 y1_1 y1_2 y1_3 y1_4 y1_5 z M) M := ⟨_, rfl⟩
noncomputable def P13_16 : Rec → Nat → Nat → Nat → Bool → Nat → Value → Int → Int → Int → Int → Int → Int → Int → Nat → AMem → Res := Classical.choose XP13_16
theorem QP13_37_eq (L : Rec) (P13_37 : Rec → Nat → Nat → AMem → Res) (hP13_37 : P13_37 = fun (L : Rec) (x6 : Nat) (x8 : Nat) (M : AMem) => code L (.seq (.ops o13_38) (.ret)) (retK [.cell true [.int .i64, .int .i64, .slice] 6, .tmp 7]) (s13_37 x6 x8 M) M) (x6 : Nat) (x8 : Nat) (M : AMem) : P13_37 L x6 x8 M =
  (Option.bind (intOf? .i64 (AMem.ld M x8 0)) fun x_1 =>
    (Option.bind (intOf? .i64 (AMem.ld M x8 1)) fun x_2 =>
    (Option.bind (sliceOf? (AMem.ld M x8 2)) fun s_3 =>
    (Option.bind (AMem.wr M x6 0 [.int .i64 x_1, .int .i64 x_2, .slice s_3.1 s_3.2.1 s_3.2.2]) fun M_4 =>
    (Option.bind (intOf? .i64 (AMem.ld M_4 x6 0)) fun x_5 =>
    (Option.bind (intOf? .i64 (AMem.ld M_4 x6 1)) fun x_6 =>
    (Option.bind (sliceOf? (AMem.ld M_4 x6 2)) fun s_7 =>
    some (.tuple #[.agg #[.int .i64 x_5, .int .i64 x_6, .slice s_7.1 s_7.2.1 s_7.2.2], .bool true], M_4)))))))) := by
  subst hP13_37; kernel_rfl
theorem P13_37_eq (L : Rec) (x6 : Nat) (x8 : Nat) (M : AMem) : P13_37 L x6 x8 M =
  (Option.bind (intOf? .i64 (AMem.ld M x8 0)) fun x_1 =>
    (Option.bind (intOf? .i64 (AMem.ld M x8 1)) fun x_2 =>
    (Option.bind (sliceOf? (AMem.ld M x8 2)) fun s_3 =>
    (Option.bind (AMem.wr M x6 0 [.int .i64 x_1, .int .i64 x_2, .slice s_3.1 s_3.2.1 s_3.2.2]) fun M_4 =>
    (Option.bind (intOf? .i64 (AMem.ld M_4 x6 0)) fun x_5 =>
    (Option.bind (intOf? .i64 (AMem.ld M_4 x6 1)) fun x_6 =>
    (Option.bind (sliceOf? (AMem.ld M_4 x6 2)) fun s_7 =>
    some (.tuple #[.agg #[.int .i64 x_5, .int .i64 x_6, .slice s_7.1 s_7.2.1 s_7.2.2], .bool true], M_4)))))))) := QP13_37_eq L P13_37 (Classical.choose_spec XP13_37) x6 x8 M
theorem QP13_24_eq (L : Rec) (b13_24 c13_36 : ACode) (hb : ∀ K t A, L.loop b13_24 K t A = code L (.post (.seq (.ops o13_26) (.seq (.cond (.tmp 43) (.skip) (.exit 2)) (.seq (.block 3 (.seq (.ops o13_34) (.draw [] 0 o13_35 []))) (.clear [0, 1, 2, 3, 4, 6, 7, 11, 12, 13, 14, 15, 16, 17, 18, 19, 20, 21, 22, 23, 24, 25, 26, 27, 28, 29, 30, 31, 32, 33, 34, 35, 36, 37, 38, 39, 40, 43, 44, 45, 46, 47, 48, 49, 50, 51, 52, 53, 54, 55, 56, 57, 58, 59, 60, 61, 62, 63, 64, 65] c13_36)))) [0, 1, 2, 3, 4, 6, 7, 11, 12, 13, 14, 15, 16, 17, 18, 19, 20, 21, 22, 23, 24, 25, 26, 27, 28, 29, 30, 31, 32, 33, 34, 35, 36, 37, 38, 39, 40, 43, 44, 45, 46, 47, 48, 49, 50, 51, 52, 53, 54, 55, 56, 57, 58, 59, 60, 61, 62, 63, 64, 65]) (loopK L b13_24 K) t A) (P13_24 : Rec → Nat → Nat → Nat → Int → Nat → Int → Int → Int → Int → AMem → Res) (hP13_24 : P13_24 = fun (L : Rec) (l : Nat) (x5 : Nat) (x8 : Nat) (x9 : Int) (x10 : Nat) (x41_0 : Int) (x41_1 : Int) (x41_2 : Int) (x42 : Int) (M : AMem) => L.loop b13_24 (blockK 2 (blockK 1 (roundK l))) (s13_24 l x5 x8 x9 x10 x41_0 x41_1 x41_2 x42 M) M) (P13_36 : Rec → Nat → Nat → Nat → Int → Nat → Int → Int → Int → Int → AMem → Res) (hP13_36 : P13_36 = fun (L : Rec) (l : Nat) (x5 : Nat) (x8 : Nat) (x9 : Int) (x10 : Nat) (x41_0 : Int) (x41_1 : Int) (x41_2 : Int) (x42 : Int) (M : AMem) => code L c13_36 (postK [0, 1, 2, 3, 4, 6, 7, 11, 12, 13, 14, 15, 16, 17, 18, 19, 20, 21, 22, 23, 24, 25, 26, 27, 28, 29, 30, 31, 32, 33, 34, 35, 36, 37, 38, 39, 40, 43, 44, 45, 46, 47, 48, 49, 50, 51, 52, 53, 54, 55, 56, 57, 58, 59, 60, 61, 62, 63, 64, 65] (loopK L b13_24 (blockK 2 (blockK 1 (roundK l))))) (s13_36 l x5 x8 x9 x10 x41_0 x41_1 x41_2 x42 M) M) (l : Nat) (x5 : Nat) (x8 : Nat) (x9 : Int) (x10 : Nat) (x41_0 : Int) (x41_1 : Int) (x41_2 : Int) (x42 : Int) (M : AMem) : P13_24 L l x5 x8 x9 x10 x41_0 x41_1 x41_2 x42 M =
  (if (decide (x42 < 3)) = true
    then (if (0 : Int) ≤ x42 ∧ x42 < 3
      then (Option.bind (([x41_0, x41_1, x41_2] : List Int)[((Int.toNat x42) * 1)]?) fun x_1 =>
        (Option.bind (sliceOf? (AMem.ld M x8 2)) fun s_2 =>
        (Option.bind (intOf? .i64 (AMem.ld M x5 0)) fun x_3 =>
        (if (0 : Int) ≤ x42 ∧ x42 < 3
        then (Option.bind (intOf? .i64 (AMem.ld M x10 (3 + ((Int.toNat x42) * 1)))) fun x_4 =>
          (Option.bind (intOf? .i64 (AMem.ld M x5 0)) fun x_5 =>
          (match s_2.1 with
          | some a_6 => (if (0 : Int) ≤ x9 ∧ x9 < (Int.ofNat s_2.2.1)
            then (if (0 : Int) ≤ x42 ∧ x42 < 3
              then (Option.bind (AMem.wr M a_6.block ((a_6.off + ((Int.toNat x9) * 3)) + ((Int.toNat x42) * 1)) [.int .i64 (IntKind.wrap .i64 (Int.tdiv (IntKind.wrap .i64 ((IntKind.wrap .i64 (x_1 * (IntKind.wrap .i64 (1000 - x_3)))) + (IntKind.wrap .i64 (x_4 * x_5)))) 1000))]) fun M_7 =>
                P13_36 L l x5 x8 x9 x10 x41_0 x41_1 x41_2 x42 M_7)
              else none)
            else none)
          | none => none)))
        else none))))
      else none)
    else roundK l AExit.normal [] M) := by
  subst hP13_24; subst hP13_36; exact (hb (blockK 2 (blockK 1 (roundK l))) (s13_24 l x5 x8 x9 x10 x41_0 x41_1 x41_2 x42 M) M).trans (by kernel_rfl)
theorem P13_24_eq (L : Rec) (hL : ∀ b K t A, L.loop b K t A = code L b (loopK L b K) t A) (l : Nat) (x5 : Nat) (x8 : Nat) (x9 : Int) (x10 : Nat) (x41_0 : Int) (x41_1 : Int) (x41_2 : Int) (x42 : Int) (M : AMem) : P13_24 L l x5 x8 x9 x10 x41_0 x41_1 x41_2 x42 M =
  (if (decide (x42 < 3)) = true
    then (if (0 : Int) ≤ x42 ∧ x42 < 3
      then (Option.bind (([x41_0, x41_1, x41_2] : List Int)[((Int.toNat x42) * 1)]?) fun x_1 =>
        (Option.bind (sliceOf? (AMem.ld M x8 2)) fun s_2 =>
        (Option.bind (intOf? .i64 (AMem.ld M x5 0)) fun x_3 =>
        (if (0 : Int) ≤ x42 ∧ x42 < 3
        then (Option.bind (intOf? .i64 (AMem.ld M x10 (3 + ((Int.toNat x42) * 1)))) fun x_4 =>
          (Option.bind (intOf? .i64 (AMem.ld M x5 0)) fun x_5 =>
          (match s_2.1 with
          | some a_6 => (if (0 : Int) ≤ x9 ∧ x9 < (Int.ofNat s_2.2.1)
            then (if (0 : Int) ≤ x42 ∧ x42 < 3
              then (Option.bind (AMem.wr M a_6.block ((a_6.off + ((Int.toNat x9) * 3)) + ((Int.toNat x42) * 1)) [.int .i64 (IntKind.wrap .i64 (Int.tdiv (IntKind.wrap .i64 ((IntKind.wrap .i64 (x_1 * (IntKind.wrap .i64 (1000 - x_3)))) + (IntKind.wrap .i64 (x_4 * x_5)))) 1000))]) fun M_7 =>
                P13_36 L l x5 x8 x9 x10 x41_0 x41_1 x41_2 x42 M_7)
              else none)
            else none)
          | none => none)))
        else none))))
      else none)
    else roundK l AExit.normal [] M) := QP13_24_eq L b13_24 c13_36 (hL b13_24) P13_24 (Classical.choose_spec XP13_24) P13_36 (Classical.choose_spec XP13_36) l x5 x8 x9 x10 x41_0 x41_1 x41_2 x42 M
theorem QP13_36_eq (L : Rec) (b13_24 : ACode) (P13_24 : Rec → Nat → Nat → Nat → Int → Nat → Int → Int → Int → Int → AMem → Res) (hP13_24 : P13_24 = fun (L : Rec) (l : Nat) (x5 : Nat) (x8 : Nat) (x9 : Int) (x10 : Nat) (x41_0 : Int) (x41_1 : Int) (x41_2 : Int) (x42 : Int) (M : AMem) => L.loop b13_24 (blockK 2 (blockK 1 (roundK l))) (s13_24 l x5 x8 x9 x10 x41_0 x41_1 x41_2 x42 M) M) (P13_36 : Rec → Nat → Nat → Nat → Int → Nat → Int → Int → Int → Int → AMem → Res) (hP13_36 : P13_36 = fun (L : Rec) (l : Nat) (x5 : Nat) (x8 : Nat) (x9 : Int) (x10 : Nat) (x41_0 : Int) (x41_1 : Int) (x41_2 : Int) (x42 : Int) (M : AMem) => code L (.ops o13_36) (postK [0, 1, 2, 3, 4, 6, 7, 11, 12, 13, 14, 15, 16, 17, 18, 19, 20, 21, 22, 23, 24, 25, 26, 27, 28, 29, 30, 31, 32, 33, 34, 35, 36, 37, 38, 39, 40, 43, 44, 45, 46, 47, 48, 49, 50, 51, 52, 53, 54, 55, 56, 57, 58, 59, 60, 61, 62, 63, 64, 65] (loopK L b13_24 (blockK 2 (blockK 1 (roundK l))))) (s13_36 l x5 x8 x9 x10 x41_0 x41_1 x41_2 x42 M) M) (l : Nat) (x5 : Nat) (x8 : Nat) (x9 : Int) (x10 : Nat) (x41_0 : Int) (x41_1 : Int) (x41_2 : Int) (x42 : Int) (M : AMem) : P13_36 L l x5 x8 x9 x10 x41_0 x41_1 x41_2 x42 M =
  P13_24 L l x5 x8 x9 x10 x41_0 x41_1 x41_2 (IntKind.wrap .i64 (x42 + 1)) M := by
  subst hP13_24; subst hP13_36; kernel_rfl
theorem P13_36_eq (L : Rec) (l : Nat) (x5 : Nat) (x8 : Nat) (x9 : Int) (x10 : Nat) (x41_0 : Int) (x41_1 : Int) (x41_2 : Int) (x42 : Int) (M : AMem) : P13_36 L l x5 x8 x9 x10 x41_0 x41_1 x41_2 x42 M =
  P13_24 L l x5 x8 x9 x10 x41_0 x41_1 x41_2 (IntKind.wrap .i64 (x42 + 1)) M := QP13_36_eq L b13_24 P13_24 (Classical.choose_spec XP13_24) P13_36 (Classical.choose_spec XP13_36) l x5 x8 x9 x10 x41_0 x41_1 x41_2 x42 M
theorem QP13_16_eq (L : Rec) (b13_24 : ACode) (P13_24 : Rec → Nat → Nat → Nat → Int → Nat → Int → Int → Int → Int → AMem → Res) (hP13_24 : P13_24 = fun (L : Rec) (l : Nat) (x5 : Nat) (x8 : Nat) (x9 : Int) (x10 : Nat) (x41_0 : Int) (x41_1 : Int) (x41_2 : Int) (x42 : Int) (M : AMem) => L.loop b13_24 (blockK 2 (blockK 1 (roundK l))) (s13_24 l x5 x8 x9 x10 x41_0 x41_1 x41_2 x42 M) M) (P13_16 : Rec → Nat → Nat → Nat → Bool → Nat → Value → Int → Int → Int → Int → Int → Int → Int → Nat → AMem → Res) (hP13_16 : P13_16 = fun (L : Rec) (l : Nat) (x5 : Nat) (x6 : Nat) (x7 : Bool) (x8 : Nat) (x37 : Value) (y0 : Int) (y1_0 : Int) (y1_1 : Int) (y1_2 : Int) (y1_3 : Int) (y1_4 : Int) (y1_5 : Int) (z : Nat) (M : AMem) => code L (.block 1 (.seq (.ops o13_22) (.block 2 (.clear [0, 1, 2, 3, 4, 6, 7, 11, 12, 13, 14, 15, 16, 17, 18, 19, 20, 21, 22, 23, 24, 25, 26, 27, 28, 29, 30, 31, 32, 33, 34, 35, 36, 37, 38, 39, 40, 43, 44, 45, 46, 47, 48, 49, 50, 51, 52, 53, 54, 55, 56, 57, 58, 59, 60, 61, 62, 63, 64, 65] (.loop b13_24))))) (roundK l) (s13_16 l x5 x6 x7 x8 x37 y0 y1_0 y1_1 y1_2 y1_3 y1_4 y1_5 z M) M) (l : Nat) (x5 : Nat) (x6 : Nat) (x7 : Bool) (x8 : Nat) (x37 : Value) (y0 : Int) (y1_0 : Int) (y1_1 : Int) (y1_2 : Int) (y1_3 : Int) (y1_4 : Int) (y1_5 : Int) (z : Nat) (M : AMem) : P13_16 L l x5 x6 x7 x8 x37 y0 y1_0 y1_1 y1_2 y1_3 y1_4 y1_5 z M =
  (Option.bind (intOf? .i64 (AMem.ld M z 0)) fun x_2 =>
    (Option.bind (intOf? .i64 (AMem.ld M z 1)) fun x_3 =>
    (Option.bind (intOf? .i64 (AMem.ld M z 2)) fun x_4 =>
    P13_24 L l x5 x8 y0 z x_2 x_3 x_4 0 M))) := by
  subst hP13_24; subst hP13_16; kernel_rfl
theorem P13_16_eq (L : Rec) (l : Nat) (x5 : Nat) (x6 : Nat) (x7 : Bool) (x8 : Nat) (x37 : Value) (y0 : Int) (y1_0 : Int) (y1_1 : Int) (y1_2 : Int) (y1_3 : Int) (y1_4 : Int) (y1_5 : Int) (z : Nat) (M : AMem) : P13_16 L l x5 x6 x7 x8 x37 y0 y1_0 y1_1 y1_2 y1_3 y1_4 y1_5 z M =
  (Option.bind (intOf? .i64 (AMem.ld M z 0)) fun x_2 =>
    (Option.bind (intOf? .i64 (AMem.ld M z 1)) fun x_3 =>
    (Option.bind (intOf? .i64 (AMem.ld M z 2)) fun x_4 =>
    P13_24 L l x5 x8 y0 z x_2 x_3 x_4 0 M))) := QP13_16_eq L b13_24 P13_24 (Classical.choose_spec XP13_24) P13_16 (Classical.choose_spec XP13_16) l x5 x6 x7 x8 x37 y0 y1_0 y1_1 y1_2 y1_3 y1_4 y1_5 z M
theorem R13_16 (L : Rec) (hR : ∀ l args A, L.round l args A = roundF L l args A) (l : Nat) (x5 : Nat) (x6 : Nat) (x7 : Bool) (x8 : Nat) (x37 : Value) (y0 : Int) (y1_0 : Int) (y1_1 : Int) (y1_2 : Int) (y1_3 : Int) (y1_4 : Int) (y1_5 : Int) (M : AMem) (pe : Option AExit) (hM : M[l]? = some (.loop (lo13_16 .ready pe x5 x6 x7 x8 x37))) (M1 : AMem) (hw : AMem.wr (M ++ [AObj.cells [.int .i64 0, .int .i64 0, .int .i64 0, .int .i64 0, .int .i64 0, .int .i64 0] ⟨false, 0⟩]) (List.length M) 0 [.int .i64 y1_0, .int .i64 y1_1, .int .i64 y1_2, .int .i64 y1_3, .int .i64 y1_4, .int .i64 y1_5] = some M1) (hM1 : M1[l]? = some (.loop (lo13_16 .ready pe x5 x6 x7 x8 x37))) : L.round l [.int .i64 y0, .agg #[.int .i64 y1_0, .int .i64 y1_1, .int .i64 y1_2, .int .i64 y1_3, .int .i64 y1_4, .int .i64 y1_5]] M =
  P13_16 L l x5 x6 x7 x8 x37 y0 y1_0 y1_1 y1_2 y1_3 y1_4 y1_5 (List.length M) (M1.set l (.loop (lo13_16 .busy pe x5 x6 x7 x8 x37))) := by
  rw [hR, roundF_wr hM rfl rfl hw hM1 (s13_16 l x5 x6 x7 x8 x37 y0 y1_0 y1_1 y1_2 y1_3 y1_4 y1_5 (List.length M) M) (fun K => by kernel_rfl)]; exact (congrFun (congrFun (congrFun (congrFun (congrFun (congrFun (congrFun (congrFun (congrFun (congrFun (congrFun (congrFun (congrFun (congrFun (congrFun (congrFun (Classical.choose_spec XP13_16) L) l) x5) x6) x7) x8) x37) y0) y1_0) y1_1) y1_2) y1_3) y1_4) y1_5) _) _).symm
theorem GE13 (L : Rec) (b13_16 c13_37 : ACode) (x0_0 : Int) (x0_1 : Int) (x0_2 : Option Addr) (x0_2n : Nat) (x0_2c : Nat) (x1_0 : Int) (x1_1 : Int) (x1_2 : Option Addr) (x1_2n : Nat) (x1_2c : Nat) (x2 : Int) (M : AMem) : enterF L ⟨66, [.cell true [.int .i64, .int .i64, .slice] 6, .tmp 7], .seq (.ops o13_1) (.seq (.seq (.ops o13_4) (.cond (.tmp 24) (.seq (.ops o13_7) (.ret)) (.skip))) (.seq (.draw f13_11 0 o13_11 [(1, 7), (3, 7), (9, 7)]) (.seq (.seq (.ops o13_14) (.block 0 (.clear [0, 1, 2, 3, 4, 9, 10, 11, 12, 13, 14, 15, 16, 17, 18, 19, 20, 21, 22, 23, 24, 25, 26, 27, 28, 29, 30, 31, 32, 33, 34, 35, 36, 40, 41, 42, 43, 44, 45, 46, 47, 48, 49, 50, 51, 52, 53, 54, 55, 56, 57, 58, 59, 60, 61, 62, 63, 64, 65] (.rangeFunc (.tmp 37) [38, 39] (.seq (.ops o13_18) (.ops o13_19)) b13_16)))) (.clear [0, 1, 2, 3, 4, 5, 7, 9, 10, 11, 12, 13, 14, 15, 16, 17, 18, 19, 20, 21, 22, 23, 24, 25, 26, 27, 28, 29, 30, 31, 32, 33, 34, 35, 36, 37, 38, 39, 40, 41, 42, 43, 44, 45, 46, 47, 48, 49, 50, 51, 52, 53, 54, 55, 56, 57, 58, 59, 60, 61, 62, 63, 64, 65] c13_37))))⟩ [.agg #[.int .i64 x0_0, .int .i64 x0_1, .slice x0_2 x0_2n x0_2c], .agg #[.int .i64 x1_0, .int .i64 x1_1, .slice x1_2 x1_2n x1_2c], .int .i64 x2] M =
  (Option.bind (intOf? .i64 (AMem.ld ((((M ++ [AObj.cells [.int .i64 x0_0, .int .i64 x0_1, .slice x0_2 x0_2n x0_2c] ⟨false, 0⟩]) ++ [AObj.cells [.int .i64 x1_0, .int .i64 x1_1, .slice x1_2 x1_2n x1_2c] ⟨false, 0⟩]) ++ [AObj.cells [.int .i64 x2] ⟨false, 0⟩]) ++ [AObj.cells [.int .i64 0, .int .i64 0, .slice none 0 0] ⟨false, 0⟩]) (List.length M) 0)) fun x_1 =>
    (Option.bind (intOf? .i64 (AMem.ld ((((M ++ [AObj.cells [.int .i64 x0_0, .int .i64 x0_1, .slice x0_2 x0_2n x0_2c] ⟨false, 0⟩]) ++ [AObj.cells [.int .i64 x1_0, .int .i64 x1_1, .slice x1_2 x1_2n x1_2c] ⟨false, 0⟩]) ++ [AObj.cells [.int .i64 x2] ⟨false, 0⟩]) ++ [AObj.cells [.int .i64 0, .int .i64 0, .slice none 0 0] ⟨false, 0⟩]) (List.length M) 1)) fun x_2 =>
    (Option.bind (sliceOf? (AMem.ld ((((M ++ [AObj.cells [.int .i64 x0_0, .int .i64 x0_1, .slice x0_2 x0_2n x0_2c] ⟨false, 0⟩]) ++ [AObj.cells [.int .i64 x1_0, .int .i64 x1_1, .slice x1_2 x1_2n x1_2c] ⟨false, 0⟩]) ++ [AObj.cells [.int .i64 x2] ⟨false, 0⟩]) ++ [AObj.cells [.int .i64 0, .int .i64 0, .slice none 0 0] ⟨false, 0⟩]) (List.length M) 2)) fun s_3 =>
    (Option.bind (intOf? .i64 (AMem.ld ((((M ++ [AObj.cells [.int .i64 x0_0, .int .i64 x0_1, .slice x0_2 x0_2n x0_2c] ⟨false, 0⟩]) ++ [AObj.cells [.int .i64 x1_0, .int .i64 x1_1, .slice x1_2 x1_2n x1_2c] ⟨false, 0⟩]) ++ [AObj.cells [.int .i64 x2] ⟨false, 0⟩]) ++ [AObj.cells [.int .i64 0, .int .i64 0, .slice none 0 0] ⟨false, 0⟩]) (List.length (M ++ [AObj.cells [.int .i64 x0_0, .int .i64 x0_1, .slice x0_2 x0_2n x0_2c] ⟨false, 0⟩])) 0)) fun x_4 =>
    (Option.bind (intOf? .i64 (AMem.ld ((((M ++ [AObj.cells [.int .i64 x0_0, .int .i64 x0_1, .slice x0_2 x0_2n x0_2c] ⟨false, 0⟩]) ++ [AObj.cells [.int .i64 x1_0, .int .i64 x1_1, .slice x1_2 x1_2n x1_2c] ⟨false, 0⟩]) ++ [AObj.cells [.int .i64 x2] ⟨false, 0⟩]) ++ [AObj.cells [.int .i64 0, .int .i64 0, .slice none 0 0] ⟨false, 0⟩]) (List.length (M ++ [AObj.cells [.int .i64 x0_0, .int .i64 x0_1, .slice x0_2 x0_2n x0_2c] ⟨false, 0⟩])) 1)) fun x_5 =>
    (Option.bind (sliceOf? (AMem.ld ((((M ++ [AObj.cells [.int .i64 x0_0, .int .i64 x0_1, .slice x0_2 x0_2n x0_2c] ⟨false, 0⟩]) ++ [AObj.cells [.int .i64 x1_0, .int .i64 x1_1, .slice x1_2 x1_2n x1_2c] ⟨false, 0⟩]) ++ [AObj.cells [.int .i64 x2] ⟨false, 0⟩]) ++ [AObj.cells [.int .i64 0, .int .i64 0, .slice none 0 0] ⟨false, 0⟩]) (List.length (M ++ [AObj.cells [.int .i64 x0_0, .int .i64 x0_1, .slice x0_2 x0_2n x0_2c] ⟨false, 0⟩])) 2)) fun s_6 =>
    (Option.bind (L.call 20 [.agg #[.int .i64 x_1, .int .i64 x_2, .slice s_3.1 s_3.2.1 s_3.2.2], .agg #[.int .i64 x_4, .int .i64 x_5, .slice s_6.1 s_6.2.1 s_6.2.2]] ((((M ++ [AObj.cells [.int .i64 x0_0, .int .i64 x0_1, .slice x0_2 x0_2n x0_2c] ⟨false, 0⟩]) ++ [AObj.cells [.int .i64 x1_0, .int .i64 x1_1, .slice x1_2 x1_2n x1_2c] ⟨false, 0⟩]) ++ [AObj.cells [.int .i64 x2] ⟨false, 0⟩]) ++ [AObj.cells [.int .i64 0, .int .i64 0, .slice none 0 0] ⟨false, 0⟩])) fun r_7 =>
    (Option.bind (boolOf? (some r_7.1)) fun q_8 =>
    (if (!q_8) = true
    then (Option.bind (AMem.wr r_7.2 (List.length (((M ++ [AObj.cells [.int .i64 x0_0, .int .i64 x0_1, .slice x0_2 x0_2n x0_2c] ⟨false, 0⟩]) ++ [AObj.cells [.int .i64 x1_0, .int .i64 x1_1, .slice x1_2 x1_2n x1_2c] ⟨false, 0⟩]) ++ [AObj.cells [.int .i64 x2] ⟨false, 0⟩])) 0 [.int .i64 0, .int .i64 0, .slice none 0 0]) fun M_9 =>
      (Option.bind (intOf? .i64 (AMem.ld M_9 (List.length (((M ++ [AObj.cells [.int .i64 x0_0, .int .i64 x0_1, .slice x0_2 x0_2n x0_2c] ⟨false, 0⟩]) ++ [AObj.cells [.int .i64 x1_0, .int .i64 x1_1, .slice x1_2 x1_2n x1_2c] ⟨false, 0⟩]) ++ [AObj.cells [.int .i64 x2] ⟨false, 0⟩])) 0)) fun x_10 =>
      (Option.bind (intOf? .i64 (AMem.ld M_9 (List.length (((M ++ [AObj.cells [.int .i64 x0_0, .int .i64 x0_1, .slice x0_2 x0_2n x0_2c] ⟨false, 0⟩]) ++ [AObj.cells [.int .i64 x1_0, .int .i64 x1_1, .slice x1_2 x1_2n x1_2c] ⟨false, 0⟩]) ++ [AObj.cells [.int .i64 x2] ⟨false, 0⟩])) 1)) fun x_11 =>
      (Option.bind (sliceOf? (AMem.ld M_9 (List.length (((M ++ [AObj.cells [.int .i64 x0_0, .int .i64 x0_1, .slice x0_2 x0_2n x0_2c] ⟨false, 0⟩]) ++ [AObj.cells [.int .i64 x1_0, .int .i64 x1_1, .slice x1_2 x1_2n x1_2c] ⟨false, 0⟩]) ++ [AObj.cells [.int .i64 x2] ⟨false, 0⟩])) 2)) fun s_12 =>
      some (.tuple #[.agg #[.int .i64 x_10, .int .i64 x_11, .slice s_12.1 s_12.2.1 s_12.2.2], .bool false], M_9)))))
    else (Option.bind (intOf? .i64 (AMem.ld r_7.2 (List.length ((M ++ [AObj.cells [.int .i64 x0_0, .int .i64 x0_1, .slice x0_2 x0_2n x0_2c] ⟨false, 0⟩]) ++ [AObj.cells [.int .i64 x1_0, .int .i64 x1_1, .slice x1_2 x1_2n x1_2c] ⟨false, 0⟩])) 0)) fun x_13 =>
      (if (decide (x_13 < 0)) = true
      then (Option.bind (AMem.wr r_7.2 (List.length (((M ++ [AObj.cells [.int .i64 x0_0, .int .i64 x0_1, .slice x0_2 x0_2n x0_2c] ⟨false, 0⟩]) ++ [AObj.cells [.int .i64 x1_0, .int .i64 x1_1, .slice x1_2 x1_2n x1_2c] ⟨false, 0⟩]) ++ [AObj.cells [.int .i64 x2] ⟨false, 0⟩])) 0 [.int .i64 0, .int .i64 0, .slice none 0 0]) fun M_14 =>
        (Option.bind (intOf? .i64 (AMem.ld M_14 (List.length (((M ++ [AObj.cells [.int .i64 x0_0, .int .i64 x0_1, .slice x0_2 x0_2n x0_2c] ⟨false, 0⟩]) ++ [AObj.cells [.int .i64 x1_0, .int .i64 x1_1, .slice x1_2 x1_2n x1_2c] ⟨false, 0⟩]) ++ [AObj.cells [.int .i64 x2] ⟨false, 0⟩])) 0)) fun x_15 =>
        (Option.bind (intOf? .i64 (AMem.ld M_14 (List.length (((M ++ [AObj.cells [.int .i64 x0_0, .int .i64 x0_1, .slice x0_2 x0_2n x0_2c] ⟨false, 0⟩]) ++ [AObj.cells [.int .i64 x1_0, .int .i64 x1_1, .slice x1_2 x1_2n x1_2c] ⟨false, 0⟩]) ++ [AObj.cells [.int .i64 x2] ⟨false, 0⟩])) 1)) fun x_16 =>
        (Option.bind (sliceOf? (AMem.ld M_14 (List.length (((M ++ [AObj.cells [.int .i64 x0_0, .int .i64 x0_1, .slice x0_2 x0_2n x0_2c] ⟨false, 0⟩]) ++ [AObj.cells [.int .i64 x1_0, .int .i64 x1_1, .slice x1_2 x1_2n x1_2c] ⟨false, 0⟩]) ++ [AObj.cells [.int .i64 x2] ⟨false, 0⟩])) 2)) fun s_17 =>
        some (.tuple #[.agg #[.int .i64 x_15, .int .i64 x_16, .slice s_17.1 s_17.2.1 s_17.2.2], .bool false], M_14)))))
      else (Option.bind (intOf? .i64 (AMem.ld r_7.2 (List.length ((M ++ [AObj.cells [.int .i64 x0_0, .int .i64 x0_1, .slice x0_2 x0_2n x0_2c] ⟨false, 0⟩]) ++ [AObj.cells [.int .i64 x1_0, .int .i64 x1_1, .slice x1_2 x1_2n x1_2c] ⟨false, 0⟩])) 0)) fun x_18 =>
        (if (decide (x_18 > 1000)) = true
        then (Option.bind (AMem.wr r_7.2 (List.length (((M ++ [AObj.cells [.int .i64 x0_0, .int .i64 x0_1, .slice x0_2 x0_2n x0_2c] ⟨false, 0⟩]) ++ [AObj.cells [.int .i64 x1_0, .int .i64 x1_1, .slice x1_2 x1_2n x1_2c] ⟨false, 0⟩]) ++ [AObj.cells [.int .i64 x2] ⟨false, 0⟩])) 0 [.int .i64 0, .int .i64 0, .slice none 0 0]) fun M_19 =>
          (Option.bind (intOf? .i64 (AMem.ld M_19 (List.length (((M ++ [AObj.cells [.int .i64 x0_0, .int .i64 x0_1, .slice x0_2 x0_2n x0_2c] ⟨false, 0⟩]) ++ [AObj.cells [.int .i64 x1_0, .int .i64 x1_1, .slice x1_2 x1_2n x1_2c] ⟨false, 0⟩]) ++ [AObj.cells [.int .i64 x2] ⟨false, 0⟩])) 0)) fun x_20 =>
          (Option.bind (intOf? .i64 (AMem.ld M_19 (List.length (((M ++ [AObj.cells [.int .i64 x0_0, .int .i64 x0_1, .slice x0_2 x0_2n x0_2c] ⟨false, 0⟩]) ++ [AObj.cells [.int .i64 x1_0, .int .i64 x1_1, .slice x1_2 x1_2n x1_2c] ⟨false, 0⟩]) ++ [AObj.cells [.int .i64 x2] ⟨false, 0⟩])) 1)) fun x_21 =>
          (Option.bind (sliceOf? (AMem.ld M_19 (List.length (((M ++ [AObj.cells [.int .i64 x0_0, .int .i64 x0_1, .slice x0_2 x0_2n x0_2c] ⟨false, 0⟩]) ++ [AObj.cells [.int .i64 x1_0, .int .i64 x1_1, .slice x1_2 x1_2n x1_2c] ⟨false, 0⟩]) ++ [AObj.cells [.int .i64 x2] ⟨false, 0⟩])) 2)) fun s_22 =>
          some (.tuple #[.agg #[.int .i64 x_20, .int .i64 x_21, .slice s_22.1 s_22.2.1 s_22.2.2], .bool false], M_19)))))
        else (Option.bind (intOf? .i64 (AMem.ld (r_7.2 ++ [AObj.cells [.int .i64 0, .int .i64 0, .slice none 0 0] ⟨false, 0⟩]) (List.length M) 0)) fun x_23 =>
          (Option.bind (intOf? .i64 (AMem.ld (r_7.2 ++ [AObj.cells [.int .i64 0, .int .i64 0, .slice none 0 0] ⟨false, 0⟩]) (List.length M) 1)) fun x_24 =>
          (Option.bind (sliceOf? (AMem.ld (r_7.2 ++ [AObj.cells [.int .i64 0, .int .i64 0, .slice none 0 0] ⟨false, 0⟩]) (List.length M) 2)) fun s_25 =>
          (if (0 : Int) ≤ (Int.ofNat s_25.2.1) ∧ (Int.ofNat s_25.2.1) ≤ (Int.ofNat s_25.2.1) ∧ (Int.ofNat s_25.2.1) ≤ 140737488355328 ∧ (Int.ofNat s_25.2.1) * 24 ≤ 140737488355328
          then (Option.bind (AMem.wr ((r_7.2 ++ [AObj.cells [.int .i64 0, .int .i64 0, .slice none 0 0] ⟨false, 0⟩]) ++ [AObj.cells ((List.replicate (Int.toNat (Int.ofNat s_25.2.1)) [.int .i64 0, .int .i64 0, .int .i64 0]).flatten) ⟨false, 0⟩]) (List.length r_7.2) 0 [.int .i64 x_23, .int .i64 x_24, .slice (some ⟨(List.length (r_7.2 ++ [AObj.cells [.int .i64 0, .int .i64 0, .slice none 0 0] ⟨false, 0⟩])), 0, none⟩) (Int.toNat (Int.ofNat s_25.2.1)) 3]) fun M_26 =>
            (if chkOk [(1, 7), (3, 7), (9, 7)] [(9, (List.length r_7.2)), (3, (List.length M)), (1, (List.length M))] [(7, ((r_7.2 ++ [AObj.cells [.int .i64 0, .int .i64 0, .slice none 0 0] ⟨false, 0⟩]), ((r_7.2 ++ [AObj.cells [.int .i64 0, .int .i64 0, .slice none 0 0] ⟨false, 0⟩]) ++ [AObj.cells ((List.replicate (Int.toNat (Int.ofNat s_25.2.1)) [.int .i64 0, .int .i64 0, .int .i64 0]).flatten) ⟨false, 0⟩])))] = true
            then (Option.bind (intOf? .i64 (AMem.ld M_26 (List.length M) 0)) fun x_27 =>
              (Option.bind (intOf? .i64 (AMem.ld M_26 (List.length M) 1)) fun x_28 =>
              (Option.bind (sliceOf? (AMem.ld M_26 (List.length M) 2)) fun s_29 =>
              (Option.bind (intOf? .i64 (AMem.ld M_26 (List.length (M ++ [AObj.cells [.int .i64 x0_0, .int .i64 x0_1, .slice x0_2 x0_2n x0_2c] ⟨false, 0⟩])) 0)) fun x_30 =>
              (Option.bind (intOf? .i64 (AMem.ld M_26 (List.length (M ++ [AObj.cells [.int .i64 x0_0, .int .i64 x0_1, .slice x0_2 x0_2n x0_2c] ⟨false, 0⟩])) 1)) fun x_31 =>
              (Option.bind (sliceOf? (AMem.ld M_26 (List.length (M ++ [AObj.cells [.int .i64 x0_0, .int .i64 x0_1, .slice x0_2 x0_2n x0_2c] ⟨false, 0⟩])) 2)) fun s_32 =>
              (Option.bind (L.call 21 [.agg #[.int .i64 x_27, .int .i64 x_28, .slice s_29.1 s_29.2.1 s_29.2.2], .agg #[.int .i64 x_30, .int .i64 x_31, .slice s_32.1 s_32.2.1 s_32.2.2]] M_26) fun r_33 =>
              (Option.bind (anyOf? (some r_33.1)) fun u_34 =>
              (funK u_34 fun g_39 f_40 c_41 =>
              (Option.bind (L.call g_39 (f_40 ++ [.func (.yield (List.length r_33.2)) #[] #[]] ++ c_41) (r_33.2 ++ [AObj.loop ⟨.ready, none, [junk, junk, junk, junk, junk, .pointer (some ⟨(List.length ((M ++ [AObj.cells [.int .i64 x0_0, .int .i64 x0_1, .slice x0_2 x0_2n x0_2c] ⟨false, 0⟩]) ++ [AObj.cells [.int .i64 x1_0, .int .i64 x1_1, .slice x1_2 x1_2n x1_2c] ⟨false, 0⟩])), 0, none⟩), .pointer (some ⟨(List.length (((M ++ [AObj.cells [.int .i64 x0_0, .int .i64 x0_1, .slice x0_2 x0_2n x0_2c] ⟨false, 0⟩]) ++ [AObj.cells [.int .i64 x1_0, .int .i64 x1_1, .slice x1_2 x1_2n x1_2c] ⟨false, 0⟩]) ++ [AObj.cells [.int .i64 x2] ⟨false, 0⟩])), 0, none⟩), .bool false, .pointer (some ⟨(List.length r_7.2), 0, none⟩), junk, junk, junk, junk, junk, junk, junk, junk, junk, junk, junk, junk, junk, junk, junk, junk, junk, junk, junk, junk, junk, junk, junk, junk, junk, junk, junk, junk, u_34, .tuple #[], .tuple #[], junk, junk, junk, junk, junk, junk, junk, junk, junk, junk, junk, junk, junk, junk, junk, junk, junk, junk, junk, junk, junk, junk, junk, junk, junk, junk], [38, 39], .seq (.ops o13_18) (.ops o13_19), b13_16⟩])) fun r_35 =>
              rangeK (List.length r_33.2) r_35 (fun M_37 =>
              code L c13_37 (retK [.cell true [.int .i64, .int .i64, .slice] 6, .tmp 7]) [junk, junk, junk, junk, junk, junk, .pointer (some ⟨(List.length (((M ++ [AObj.cells [.int .i64 x0_0, .int .i64 x0_1, .slice x0_2 x0_2n x0_2c] ⟨false, 0⟩]) ++ [AObj.cells [.int .i64 x1_0, .int .i64 x1_1, .slice x1_2 x1_2n x1_2c] ⟨false, 0⟩]) ++ [AObj.cells [.int .i64 x2] ⟨false, 0⟩])), 0, none⟩), junk, .pointer (some ⟨(List.length r_7.2), 0, none⟩), junk, junk, junk, junk, junk, junk, junk, junk, junk, junk, junk, junk, junk, junk, junk, junk, junk, junk, junk, junk, junk, junk, junk, junk, junk, junk, junk, junk, junk, junk, junk, junk, junk, junk, junk, junk, junk, junk, junk, junk, junk, junk, junk, junk, junk, junk, junk, junk, junk, junk, junk, junk, junk, junk, junk, junk, junk] M_37) (fun e_36 M_38 => (blockK 0 (seqK (code L (.clear [0, 1, 2, 3, 4, 5, 7, 9, 10, 11, 12, 13, 14, 15, 16, 17, 18, 19, 20, 21, 22, 23, 24, 25, 26, 27, 28, 29, 30, 31, 32, 33, 34, 35, 36, 37, 38, 39, 40, 41, 42, 43, 44, 45, 46, 47, 48, 49, 50, 51, 52, 53, 54, 55, 56, 57, 58, 59, 60, 61, 62, 63, 64, 65] c13_37) (retK [.cell true [.int .i64, .int .i64, .slice] 6, .tmp 7])) (retK [.cell true [.int .i64, .int .i64, .slice] 6, .tmp 7]))) e_36 [junk, junk, junk, junk, junk, .pointer (some ⟨(List.length ((M ++ [AObj.cells [.int .i64 x0_0, .int .i64 x0_1, .slice x0_2 x0_2n x0_2c] ⟨false, 0⟩]) ++ [AObj.cells [.int .i64 x1_0, .int .i64 x1_1, .slice x1_2 x1_2n x1_2c] ⟨false, 0⟩])), 0, none⟩), .pointer (some ⟨(List.length (((M ++ [AObj.cells [.int .i64 x0_0, .int .i64 x0_1, .slice x0_2 x0_2n x0_2c] ⟨false, 0⟩]) ++ [AObj.cells [.int .i64 x1_0, .int .i64 x1_1, .slice x1_2 x1_2n x1_2c] ⟨false, 0⟩]) ++ [AObj.cells [.int .i64 x2] ⟨false, 0⟩])), 0, none⟩), .bool false, .pointer (some ⟨(List.length r_7.2), 0, none⟩), junk, junk, junk, junk, junk, junk, junk, junk, junk, junk, junk, junk, junk, junk, junk, junk, junk, junk, junk, junk, junk, junk, junk, junk, junk, junk, junk, junk, u_34, .tuple #[], .tuple #[], junk, junk, junk, junk, junk, junk, junk, junk, junk, junk, junk, junk, junk, junk, junk, junk, junk, junk, junk, junk, junk, junk, junk, junk, junk, junk] M_38)))))))))))
            else none))
          else none))))))))))))))))) := by kernel_rfl
theorem QE13 (L : Rec) (P13_37 : Rec → Nat → Nat → AMem → Res) (hP13_37 : P13_37 = fun (L : Rec) (x6 : Nat) (x8 : Nat) (M : AMem) => code L c13_37 (k13_37 L) (s13_37 x6 x8 M) M) (x0_0 : Int) (x0_1 : Int) (x0_2 : Option Addr) (x0_2n : Nat) (x0_2c : Nat) (x1_0 : Int) (x1_1 : Int) (x1_2 : Option Addr) (x1_2n : Nat) (x1_2c : Nat) (x2 : Int) (M : AMem) : enterF L a13 [.agg #[.int .i64 x0_0, .int .i64 x0_1, .slice x0_2 x0_2n x0_2c], .agg #[.int .i64 x1_0, .int .i64 x1_1, .slice x1_2 x1_2n x1_2c], .int .i64 x2] M =
  (Option.bind (intOf? .i64 (AMem.ld ((((M ++ [AObj.cells [.int .i64 x0_0, .int .i64 x0_1, .slice x0_2 x0_2n x0_2c] ⟨false, 0⟩]) ++ [AObj.cells [.int .i64 x1_0, .int .i64 x1_1, .slice x1_2 x1_2n x1_2c] ⟨false, 0⟩]) ++ [AObj.cells [.int .i64 x2] ⟨false, 0⟩]) ++ [AObj.cells [.int .i64 0, .int .i64 0, .slice none 0 0] ⟨false, 0⟩]) (List.length M) 0)) fun x_1 =>
    (Option.bind (intOf? .i64 (AMem.ld ((((M ++ [AObj.cells [.int .i64 x0_0, .int .i64 x0_1, .slice x0_2 x0_2n x0_2c] ⟨false, 0⟩]) ++ [AObj.cells [.int .i64 x1_0, .int .i64 x1_1, .slice x1_2 x1_2n x1_2c] ⟨false, 0⟩]) ++ [AObj.cells [.int .i64 x2] ⟨false, 0⟩]) ++ [AObj.cells [.int .i64 0, .int .i64 0, .slice none 0 0] ⟨false, 0⟩]) (List.length M) 1)) fun x_2 =>
    (Option.bind (sliceOf? (AMem.ld ((((M ++ [AObj.cells [.int .i64 x0_0, .int .i64 x0_1, .slice x0_2 x0_2n x0_2c] ⟨false, 0⟩]) ++ [AObj.cells [.int .i64 x1_0, .int .i64 x1_1, .slice x1_2 x1_2n x1_2c] ⟨false, 0⟩]) ++ [AObj.cells [.int .i64 x2] ⟨false, 0⟩]) ++ [AObj.cells [.int .i64 0, .int .i64 0, .slice none 0 0] ⟨false, 0⟩]) (List.length M) 2)) fun s_3 =>
    (Option.bind (intOf? .i64 (AMem.ld ((((M ++ [AObj.cells [.int .i64 x0_0, .int .i64 x0_1, .slice x0_2 x0_2n x0_2c] ⟨false, 0⟩]) ++ [AObj.cells [.int .i64 x1_0, .int .i64 x1_1, .slice x1_2 x1_2n x1_2c] ⟨false, 0⟩]) ++ [AObj.cells [.int .i64 x2] ⟨false, 0⟩]) ++ [AObj.cells [.int .i64 0, .int .i64 0, .slice none 0 0] ⟨false, 0⟩]) (List.length (M ++ [AObj.cells [.int .i64 x0_0, .int .i64 x0_1, .slice x0_2 x0_2n x0_2c] ⟨false, 0⟩])) 0)) fun x_4 =>
    (Option.bind (intOf? .i64 (AMem.ld ((((M ++ [AObj.cells [.int .i64 x0_0, .int .i64 x0_1, .slice x0_2 x0_2n x0_2c] ⟨false, 0⟩]) ++ [AObj.cells [.int .i64 x1_0, .int .i64 x1_1, .slice x1_2 x1_2n x1_2c] ⟨false, 0⟩]) ++ [AObj.cells [.int .i64 x2] ⟨false, 0⟩]) ++ [AObj.cells [.int .i64 0, .int .i64 0, .slice none 0 0] ⟨false, 0⟩]) (List.length (M ++ [AObj.cells [.int .i64 x0_0, .int .i64 x0_1, .slice x0_2 x0_2n x0_2c] ⟨false, 0⟩])) 1)) fun x_5 =>
    (Option.bind (sliceOf? (AMem.ld ((((M ++ [AObj.cells [.int .i64 x0_0, .int .i64 x0_1, .slice x0_2 x0_2n x0_2c] ⟨false, 0⟩]) ++ [AObj.cells [.int .i64 x1_0, .int .i64 x1_1, .slice x1_2 x1_2n x1_2c] ⟨false, 0⟩]) ++ [AObj.cells [.int .i64 x2] ⟨false, 0⟩]) ++ [AObj.cells [.int .i64 0, .int .i64 0, .slice none 0 0] ⟨false, 0⟩]) (List.length (M ++ [AObj.cells [.int .i64 x0_0, .int .i64 x0_1, .slice x0_2 x0_2n x0_2c] ⟨false, 0⟩])) 2)) fun s_6 =>
    (Option.bind (L.call 20 [.agg #[.int .i64 x_1, .int .i64 x_2, .slice s_3.1 s_3.2.1 s_3.2.2], .agg #[.int .i64 x_4, .int .i64 x_5, .slice s_6.1 s_6.2.1 s_6.2.2]] ((((M ++ [AObj.cells [.int .i64 x0_0, .int .i64 x0_1, .slice x0_2 x0_2n x0_2c] ⟨false, 0⟩]) ++ [AObj.cells [.int .i64 x1_0, .int .i64 x1_1, .slice x1_2 x1_2n x1_2c] ⟨false, 0⟩]) ++ [AObj.cells [.int .i64 x2] ⟨false, 0⟩]) ++ [AObj.cells [.int .i64 0, .int .i64 0, .slice none 0 0] ⟨false, 0⟩])) fun r_7 =>
    (Option.bind (boolOf? (some r_7.1)) fun q_8 =>
    (if (!q_8) = true
    then (Option.bind (AMem.wr r_7.2 (List.length (((M ++ [AObj.cells [.int .i64 x0_0, .int .i64 x0_1, .slice x0_2 x0_2n x0_2c] ⟨false, 0⟩]) ++ [AObj.cells [.int .i64 x1_0, .int .i64 x1_1, .slice x1_2 x1_2n x1_2c] ⟨false, 0⟩]) ++ [AObj.cells [.int .i64 x2] ⟨false, 0⟩])) 0 [.int .i64 0, .int .i64 0, .slice none 0 0]) fun M_9 =>
      (Option.bind (intOf? .i64 (AMem.ld M_9 (List.length (((M ++ [AObj.cells [.int .i64 x0_0, .int .i64 x0_1, .slice x0_2 x0_2n x0_2c] ⟨false, 0⟩]) ++ [AObj.cells [.int .i64 x1_0, .int .i64 x1_1, .slice x1_2 x1_2n x1_2c] ⟨false, 0⟩]) ++ [AObj.cells [.int .i64 x2] ⟨false, 0⟩])) 0)) fun x_10 =>
      (Option.bind (intOf? .i64 (AMem.ld M_9 (List.length (((M ++ [AObj.cells [.int .i64 x0_0, .int .i64 x0_1, .slice x0_2 x0_2n x0_2c] ⟨false, 0⟩]) ++ [AObj.cells [.int .i64 x1_0, .int .i64 x1_1, .slice x1_2 x1_2n x1_2c] ⟨false, 0⟩]) ++ [AObj.cells [.int .i64 x2] ⟨false, 0⟩])) 1)) fun x_11 =>
      (Option.bind (sliceOf? (AMem.ld M_9 (List.length (((M ++ [AObj.cells [.int .i64 x0_0, .int .i64 x0_1, .slice x0_2 x0_2n x0_2c] ⟨false, 0⟩]) ++ [AObj.cells [.int .i64 x1_0, .int .i64 x1_1, .slice x1_2 x1_2n x1_2c] ⟨false, 0⟩]) ++ [AObj.cells [.int .i64 x2] ⟨false, 0⟩])) 2)) fun s_12 =>
      some (.tuple #[.agg #[.int .i64 x_10, .int .i64 x_11, .slice s_12.1 s_12.2.1 s_12.2.2], .bool false], M_9)))))
    else (Option.bind (intOf? .i64 (AMem.ld r_7.2 (List.length ((M ++ [AObj.cells [.int .i64 x0_0, .int .i64 x0_1, .slice x0_2 x0_2n x0_2c] ⟨false, 0⟩]) ++ [AObj.cells [.int .i64 x1_0, .int .i64 x1_1, .slice x1_2 x1_2n x1_2c] ⟨false, 0⟩])) 0)) fun x_13 =>
      (if (decide (x_13 < 0)) = true
      then (Option.bind (AMem.wr r_7.2 (List.length (((M ++ [AObj.cells [.int .i64 x0_0, .int .i64 x0_1, .slice x0_2 x0_2n x0_2c] ⟨false, 0⟩]) ++ [AObj.cells [.int .i64 x1_0, .int .i64 x1_1, .slice x1_2 x1_2n x1_2c] ⟨false, 0⟩]) ++ [AObj.cells [.int .i64 x2] ⟨false, 0⟩])) 0 [.int .i64 0, .int .i64 0, .slice none 0 0]) fun M_14 =>
        (Option.bind (intOf? .i64 (AMem.ld M_14 (List.length (((M ++ [AObj.cells [.int .i64 x0_0, .int .i64 x0_1, .slice x0_2 x0_2n x0_2c] ⟨false, 0⟩]) ++ [AObj.cells [.int .i64 x1_0, .int .i64 x1_1, .slice x1_2 x1_2n x1_2c] ⟨false, 0⟩]) ++ [AObj.cells [.int .i64 x2] ⟨false, 0⟩])) 0)) fun x_15 =>
        (Option.bind (intOf? .i64 (AMem.ld M_14 (List.length (((M ++ [AObj.cells [.int .i64 x0_0, .int .i64 x0_1, .slice x0_2 x0_2n x0_2c] ⟨false, 0⟩]) ++ [AObj.cells [.int .i64 x1_0, .int .i64 x1_1, .slice x1_2 x1_2n x1_2c] ⟨false, 0⟩]) ++ [AObj.cells [.int .i64 x2] ⟨false, 0⟩])) 1)) fun x_16 =>
        (Option.bind (sliceOf? (AMem.ld M_14 (List.length (((M ++ [AObj.cells [.int .i64 x0_0, .int .i64 x0_1, .slice x0_2 x0_2n x0_2c] ⟨false, 0⟩]) ++ [AObj.cells [.int .i64 x1_0, .int .i64 x1_1, .slice x1_2 x1_2n x1_2c] ⟨false, 0⟩]) ++ [AObj.cells [.int .i64 x2] ⟨false, 0⟩])) 2)) fun s_17 =>
        some (.tuple #[.agg #[.int .i64 x_15, .int .i64 x_16, .slice s_17.1 s_17.2.1 s_17.2.2], .bool false], M_14)))))
      else (Option.bind (intOf? .i64 (AMem.ld r_7.2 (List.length ((M ++ [AObj.cells [.int .i64 x0_0, .int .i64 x0_1, .slice x0_2 x0_2n x0_2c] ⟨false, 0⟩]) ++ [AObj.cells [.int .i64 x1_0, .int .i64 x1_1, .slice x1_2 x1_2n x1_2c] ⟨false, 0⟩])) 0)) fun x_18 =>
        (if (decide (x_18 > 1000)) = true
        then (Option.bind (AMem.wr r_7.2 (List.length (((M ++ [AObj.cells [.int .i64 x0_0, .int .i64 x0_1, .slice x0_2 x0_2n x0_2c] ⟨false, 0⟩]) ++ [AObj.cells [.int .i64 x1_0, .int .i64 x1_1, .slice x1_2 x1_2n x1_2c] ⟨false, 0⟩]) ++ [AObj.cells [.int .i64 x2] ⟨false, 0⟩])) 0 [.int .i64 0, .int .i64 0, .slice none 0 0]) fun M_19 =>
          (Option.bind (intOf? .i64 (AMem.ld M_19 (List.length (((M ++ [AObj.cells [.int .i64 x0_0, .int .i64 x0_1, .slice x0_2 x0_2n x0_2c] ⟨false, 0⟩]) ++ [AObj.cells [.int .i64 x1_0, .int .i64 x1_1, .slice x1_2 x1_2n x1_2c] ⟨false, 0⟩]) ++ [AObj.cells [.int .i64 x2] ⟨false, 0⟩])) 0)) fun x_20 =>
          (Option.bind (intOf? .i64 (AMem.ld M_19 (List.length (((M ++ [AObj.cells [.int .i64 x0_0, .int .i64 x0_1, .slice x0_2 x0_2n x0_2c] ⟨false, 0⟩]) ++ [AObj.cells [.int .i64 x1_0, .int .i64 x1_1, .slice x1_2 x1_2n x1_2c] ⟨false, 0⟩]) ++ [AObj.cells [.int .i64 x2] ⟨false, 0⟩])) 1)) fun x_21 =>
          (Option.bind (sliceOf? (AMem.ld M_19 (List.length (((M ++ [AObj.cells [.int .i64 x0_0, .int .i64 x0_1, .slice x0_2 x0_2n x0_2c] ⟨false, 0⟩]) ++ [AObj.cells [.int .i64 x1_0, .int .i64 x1_1, .slice x1_2 x1_2n x1_2c] ⟨false, 0⟩]) ++ [AObj.cells [.int .i64 x2] ⟨false, 0⟩])) 2)) fun s_22 =>
          some (.tuple #[.agg #[.int .i64 x_20, .int .i64 x_21, .slice s_22.1 s_22.2.1 s_22.2.2], .bool false], M_19)))))
        else (Option.bind (intOf? .i64 (AMem.ld (r_7.2 ++ [AObj.cells [.int .i64 0, .int .i64 0, .slice none 0 0] ⟨false, 0⟩]) (List.length M) 0)) fun x_23 =>
          (Option.bind (intOf? .i64 (AMem.ld (r_7.2 ++ [AObj.cells [.int .i64 0, .int .i64 0, .slice none 0 0] ⟨false, 0⟩]) (List.length M) 1)) fun x_24 =>
          (Option.bind (sliceOf? (AMem.ld (r_7.2 ++ [AObj.cells [.int .i64 0, .int .i64 0, .slice none 0 0] ⟨false, 0⟩]) (List.length M) 2)) fun s_25 =>
          (if (0 : Int) ≤ (Int.ofNat s_25.2.1) ∧ (Int.ofNat s_25.2.1) ≤ (Int.ofNat s_25.2.1) ∧ (Int.ofNat s_25.2.1) ≤ 140737488355328 ∧ (Int.ofNat s_25.2.1) * 24 ≤ 140737488355328
          then (Option.bind (AMem.wr ((r_7.2 ++ [AObj.cells [.int .i64 0, .int .i64 0, .slice none 0 0] ⟨false, 0⟩]) ++ [AObj.cells ((List.replicate (Int.toNat (Int.ofNat s_25.2.1)) [.int .i64 0, .int .i64 0, .int .i64 0]).flatten) ⟨false, 0⟩]) (List.length r_7.2) 0 [.int .i64 x_23, .int .i64 x_24, .slice (some ⟨(List.length (r_7.2 ++ [AObj.cells [.int .i64 0, .int .i64 0, .slice none 0 0] ⟨false, 0⟩])), 0, none⟩) (Int.toNat (Int.ofNat s_25.2.1)) 3]) fun M_26 =>
            (if chkOk [(1, 7), (3, 7), (9, 7)] [(9, (List.length r_7.2)), (3, (List.length M)), (1, (List.length M))] [(7, ((r_7.2 ++ [AObj.cells [.int .i64 0, .int .i64 0, .slice none 0 0] ⟨false, 0⟩]), ((r_7.2 ++ [AObj.cells [.int .i64 0, .int .i64 0, .slice none 0 0] ⟨false, 0⟩]) ++ [AObj.cells ((List.replicate (Int.toNat (Int.ofNat s_25.2.1)) [.int .i64 0, .int .i64 0, .int .i64 0]).flatten) ⟨false, 0⟩])))] = true
            then (Option.bind (intOf? .i64 (AMem.ld M_26 (List.length M) 0)) fun x_27 =>
              (Option.bind (intOf? .i64 (AMem.ld M_26 (List.length M) 1)) fun x_28 =>
              (Option.bind (sliceOf? (AMem.ld M_26 (List.length M) 2)) fun s_29 =>
              (Option.bind (intOf? .i64 (AMem.ld M_26 (List.length (M ++ [AObj.cells [.int .i64 x0_0, .int .i64 x0_1, .slice x0_2 x0_2n x0_2c] ⟨false, 0⟩])) 0)) fun x_30 =>
              (Option.bind (intOf? .i64 (AMem.ld M_26 (List.length (M ++ [AObj.cells [.int .i64 x0_0, .int .i64 x0_1, .slice x0_2 x0_2n x0_2c] ⟨false, 0⟩])) 1)) fun x_31 =>
              (Option.bind (sliceOf? (AMem.ld M_26 (List.length (M ++ [AObj.cells [.int .i64 x0_0, .int .i64 x0_1, .slice x0_2 x0_2n x0_2c] ⟨false, 0⟩])) 2)) fun s_32 =>
              (Option.bind (L.call 21 [.agg #[.int .i64 x_27, .int .i64 x_28, .slice s_29.1 s_29.2.1 s_29.2.2], .agg #[.int .i64 x_30, .int .i64 x_31, .slice s_32.1 s_32.2.1 s_32.2.2]] M_26) fun r_33 =>
              (Option.bind (anyOf? (some r_33.1)) fun u_34 =>
              (funK u_34 fun g_39 f_40 c_41 =>
              (Option.bind (L.call g_39 (f_40 ++ [.func (.yield (List.length r_33.2)) #[] #[]] ++ c_41) (r_33.2 ++ [AObj.loop (lo13_16 .ready none (List.length ((M ++ [AObj.cells [.int .i64 x0_0, .int .i64 x0_1, .slice x0_2 x0_2n x0_2c] ⟨false, 0⟩]) ++ [AObj.cells [.int .i64 x1_0, .int .i64 x1_1, .slice x1_2 x1_2n x1_2c] ⟨false, 0⟩])) (List.length (((M ++ [AObj.cells [.int .i64 x0_0, .int .i64 x0_1, .slice x0_2 x0_2n x0_2c] ⟨false, 0⟩]) ++ [AObj.cells [.int .i64 x1_0, .int .i64 x1_1, .slice x1_2 x1_2n x1_2c] ⟨false, 0⟩]) ++ [AObj.cells [.int .i64 x2] ⟨false, 0⟩])) false (List.length r_7.2) u_34)])) fun r_35 =>
              rangeK (List.length r_33.2) r_35 (fun M_37 =>
              P13_37 L (List.length (((M ++ [AObj.cells [.int .i64 x0_0, .int .i64 x0_1, .slice x0_2 x0_2n x0_2c] ⟨false, 0⟩]) ++ [AObj.cells [.int .i64 x1_0, .int .i64 x1_1, .slice x1_2 x1_2n x1_2c] ⟨false, 0⟩]) ++ [AObj.cells [.int .i64 x2] ⟨false, 0⟩])) (List.length r_7.2) M_37) (fun e_36 M_38 => (blockK 0 (seqK (code L (.clear [0, 1, 2, 3, 4, 5, 7, 9, 10, 11, 12, 13, 14, 15, 16, 17, 18, 19, 20, 21, 22, 23, 24, 25, 26, 27, 28, 29, 30, 31, 32, 33, 34, 35, 36, 37, 38, 39, 40, 41, 42, 43, 44, 45, 46, 47, 48, 49, 50, 51, 52, 53, 54, 55, 56, 57, 58, 59, 60, 61, 62, 63, 64, 65] c13_37) (retK [.cell true [.int .i64, .int .i64, .slice] 6, .tmp 7])) (retK [.cell true [.int .i64, .int .i64, .slice] 6, .tmp 7]))) e_36 [junk, junk, junk, junk, junk, .pointer (some ⟨(List.length ((M ++ [AObj.cells [.int .i64 x0_0, .int .i64 x0_1, .slice x0_2 x0_2n x0_2c] ⟨false, 0⟩]) ++ [AObj.cells [.int .i64 x1_0, .int .i64 x1_1, .slice x1_2 x1_2n x1_2c] ⟨false, 0⟩])), 0, none⟩), .pointer (some ⟨(List.length (((M ++ [AObj.cells [.int .i64 x0_0, .int .i64 x0_1, .slice x0_2 x0_2n x0_2c] ⟨false, 0⟩]) ++ [AObj.cells [.int .i64 x1_0, .int .i64 x1_1, .slice x1_2 x1_2n x1_2c] ⟨false, 0⟩]) ++ [AObj.cells [.int .i64 x2] ⟨false, 0⟩])), 0, none⟩), .bool false, .pointer (some ⟨(List.length r_7.2), 0, none⟩), junk, junk, junk, junk, junk, junk, junk, junk, junk, junk, junk, junk, junk, junk, junk, junk, junk, junk, junk, junk, junk, junk, junk, junk, junk, junk, junk, junk, u_34, .tuple #[], .tuple #[], junk, junk, junk, junk, junk, junk, junk, junk, junk, junk, junk, junk, junk, junk, junk, junk, junk, junk, junk, junk, junk, junk, junk, junk, junk, junk] M_38)))))))))))
            else none))
          else none))))))))))))))))) := by
  subst hP13_37; exact Eq.mp (by kernel_rfl) (GE13 L b13_16 c13_37 x0_0 x0_1 x0_2 x0_2n x0_2c x1_0 x1_1 x1_2 x1_2n x1_2c x2 M)
theorem E13 (L : Rec) (x0_0 : Int) (x0_1 : Int) (x0_2 : Option Addr) (x0_2n : Nat) (x0_2c : Nat) (x1_0 : Int) (x1_1 : Int) (x1_2 : Option Addr) (x1_2n : Nat) (x1_2c : Nat) (x2 : Int) (M : AMem) : enterF L a13 [.agg #[.int .i64 x0_0, .int .i64 x0_1, .slice x0_2 x0_2n x0_2c], .agg #[.int .i64 x1_0, .int .i64 x1_1, .slice x1_2 x1_2n x1_2c], .int .i64 x2] M =
  (Option.bind (intOf? .i64 (AMem.ld ((((M ++ [AObj.cells [.int .i64 x0_0, .int .i64 x0_1, .slice x0_2 x0_2n x0_2c] ⟨false, 0⟩]) ++ [AObj.cells [.int .i64 x1_0, .int .i64 x1_1, .slice x1_2 x1_2n x1_2c] ⟨false, 0⟩]) ++ [AObj.cells [.int .i64 x2] ⟨false, 0⟩]) ++ [AObj.cells [.int .i64 0, .int .i64 0, .slice none 0 0] ⟨false, 0⟩]) (List.length M) 0)) fun x_1 =>
    (Option.bind (intOf? .i64 (AMem.ld ((((M ++ [AObj.cells [.int .i64 x0_0, .int .i64 x0_1, .slice x0_2 x0_2n x0_2c] ⟨false, 0⟩]) ++ [AObj.cells [.int .i64 x1_0, .int .i64 x1_1, .slice x1_2 x1_2n x1_2c] ⟨false, 0⟩]) ++ [AObj.cells [.int .i64 x2] ⟨false, 0⟩]) ++ [AObj.cells [.int .i64 0, .int .i64 0, .slice none 0 0] ⟨false, 0⟩]) (List.length M) 1)) fun x_2 =>
    (Option.bind (sliceOf? (AMem.ld ((((M ++ [AObj.cells [.int .i64 x0_0, .int .i64 x0_1, .slice x0_2 x0_2n x0_2c] ⟨false, 0⟩]) ++ [AObj.cells [.int .i64 x1_0, .int .i64 x1_1, .slice x1_2 x1_2n x1_2c] ⟨false, 0⟩]) ++ [AObj.cells [.int .i64 x2] ⟨false, 0⟩]) ++ [AObj.cells [.int .i64 0, .int .i64 0, .slice none 0 0] ⟨false, 0⟩]) (List.length M) 2)) fun s_3 =>
    (Option.bind (intOf? .i64 (AMem.ld ((((M ++ [AObj.cells [.int .i64 x0_0, .int .i64 x0_1, .slice x0_2 x0_2n x0_2c] ⟨false, 0⟩]) ++ [AObj.cells [.int .i64 x1_0, .int .i64 x1_1, .slice x1_2 x1_2n x1_2c] ⟨false, 0⟩]) ++ [AObj.cells [.int .i64 x2] ⟨false, 0⟩]) ++ [AObj.cells [.int .i64 0, .int .i64 0, .slice none 0 0] ⟨false, 0⟩]) (List.length (M ++ [AObj.cells [.int .i64 x0_0, .int .i64 x0_1, .slice x0_2 x0_2n x0_2c] ⟨false, 0⟩])) 0)) fun x_4 =>
    (Option.bind (intOf? .i64 (AMem.ld ((((M ++ [AObj.cells [.int .i64 x0_0, .int .i64 x0_1, .slice x0_2 x0_2n x0_2c] ⟨false, 0⟩]) ++ [AObj.cells [.int .i64 x1_0, .int .i64 x1_1, .slice x1_2 x1_2n x1_2c] ⟨false, 0⟩]) ++ [AObj.cells [.int .i64 x2] ⟨false, 0⟩]) ++ [AObj.cells [.int .i64 0, .int .i64 0, .slice none 0 0] ⟨false, 0⟩]) (List.length (M ++ [AObj.cells [.int .i64 x0_0, .int .i64 x0_1, .slice x0_2 x0_2n x0_2c] ⟨false, 0⟩])) 1)) fun x_5 =>
    (Option.bind (sliceOf? (AMem.ld ((((M ++ [AObj.cells [.int .i64 x0_0, .int .i64 x0_1, .slice x0_2 x0_2n x0_2c] ⟨false, 0⟩]) ++ [AObj.cells [.int .i64 x1_0, .int .i64 x1_1, .slice x1_2 x1_2n x1_2c] ⟨false, 0⟩]) ++ [AObj.cells [.int .i64 x2] ⟨false, 0⟩]) ++ [AObj.cells [.int .i64 0, .int .i64 0, .slice none 0 0] ⟨false, 0⟩]) (List.length (M ++ [AObj.cells [.int .i64 x0_0, .int .i64 x0_1, .slice x0_2 x0_2n x0_2c] ⟨false, 0⟩])) 2)) fun s_6 =>
    (Option.bind (L.call 20 [.agg #[.int .i64 x_1, .int .i64 x_2, .slice s_3.1 s_3.2.1 s_3.2.2], .agg #[.int .i64 x_4, .int .i64 x_5, .slice s_6.1 s_6.2.1 s_6.2.2]] ((((M ++ [AObj.cells [.int .i64 x0_0, .int .i64 x0_1, .slice x0_2 x0_2n x0_2c] ⟨false, 0⟩]) ++ [AObj.cells [.int .i64 x1_0, .int .i64 x1_1, .slice x1_2 x1_2n x1_2c] ⟨false, 0⟩]) ++ [AObj.cells [.int .i64 x2] ⟨false, 0⟩]) ++ [AObj.cells [.int .i64 0, .int .i64 0, .slice none 0 0] ⟨false, 0⟩])) fun r_7 =>
    (Option.bind (boolOf? (some r_7.1)) fun q_8 =>
    (if (!q_8) = true
    then (Option.bind (AMem.wr r_7.2 (List.length (((M ++ [AObj.cells [.int .i64 x0_0, .int .i64 x0_1, .slice x0_2 x0_2n x0_2c] ⟨false, 0⟩]) ++ [AObj.cells [.int .i64 x1_0, .int .i64 x1_1, .slice x1_2 x1_2n x1_2c] ⟨false, 0⟩]) ++ [AObj.cells [.int .i64 x2] ⟨false, 0⟩])) 0 [.int .i64 0, .int .i64 0, .slice none 0 0]) fun M_9 =>
      (Option.bind (intOf? .i64 (AMem.ld M_9 (List.length (((M ++ [AObj.cells [.int .i64 x0_0, .int .i64 x0_1, .slice x0_2 x0_2n x0_2c] ⟨false, 0⟩]) ++ [AObj.cells [.int .i64 x1_0, .int .i64 x1_1, .slice x1_2 x1_2n x1_2c] ⟨false, 0⟩]) ++ [AObj.cells [.int .i64 x2] ⟨false, 0⟩])) 0)) fun x_10 =>
      (Option.bind (intOf? .i64 (AMem.ld M_9 (List.length (((M ++ [AObj.cells [.int .i64 x0_0, .int .i64 x0_1, .slice x0_2 x0_2n x0_2c] ⟨false, 0⟩]) ++ [AObj.cells [.int .i64 x1_0, .int .i64 x1_1, .slice x1_2 x1_2n x1_2c] ⟨false, 0⟩]) ++ [AObj.cells [.int .i64 x2] ⟨false, 0⟩])) 1)) fun x_11 =>
      (Option.bind (sliceOf? (AMem.ld M_9 (List.length (((M ++ [AObj.cells [.int .i64 x0_0, .int .i64 x0_1, .slice x0_2 x0_2n x0_2c] ⟨false, 0⟩]) ++ [AObj.cells [.int .i64 x1_0, .int .i64 x1_1, .slice x1_2 x1_2n x1_2c] ⟨false, 0⟩]) ++ [AObj.cells [.int .i64 x2] ⟨false, 0⟩])) 2)) fun s_12 =>
      some (.tuple #[.agg #[.int .i64 x_10, .int .i64 x_11, .slice s_12.1 s_12.2.1 s_12.2.2], .bool false], M_9)))))
    else (Option.bind (intOf? .i64 (AMem.ld r_7.2 (List.length ((M ++ [AObj.cells [.int .i64 x0_0, .int .i64 x0_1, .slice x0_2 x0_2n x0_2c] ⟨false, 0⟩]) ++ [AObj.cells [.int .i64 x1_0, .int .i64 x1_1, .slice x1_2 x1_2n x1_2c] ⟨false, 0⟩])) 0)) fun x_13 =>
      (if (decide (x_13 < 0)) = true
      then (Option.bind (AMem.wr r_7.2 (List.length (((M ++ [AObj.cells [.int .i64 x0_0, .int .i64 x0_1, .slice x0_2 x0_2n x0_2c] ⟨false, 0⟩]) ++ [AObj.cells [.int .i64 x1_0, .int .i64 x1_1, .slice x1_2 x1_2n x1_2c] ⟨false, 0⟩]) ++ [AObj.cells [.int .i64 x2] ⟨false, 0⟩])) 0 [.int .i64 0, .int .i64 0, .slice none 0 0]) fun M_14 =>
        (Option.bind (intOf? .i64 (AMem.ld M_14 (List.length (((M ++ [AObj.cells [.int .i64 x0_0, .int .i64 x0_1, .slice x0_2 x0_2n x0_2c] ⟨false, 0⟩]) ++ [AObj.cells [.int .i64 x1_0, .int .i64 x1_1, .slice x1_2 x1_2n x1_2c] ⟨false, 0⟩]) ++ [AObj.cells [.int .i64 x2] ⟨false, 0⟩])) 0)) fun x_15 =>
        (Option.bind (intOf? .i64 (AMem.ld M_14 (List.length (((M ++ [AObj.cells [.int .i64 x0_0, .int .i64 x0_1, .slice x0_2 x0_2n x0_2c] ⟨false, 0⟩]) ++ [AObj.cells [.int .i64 x1_0, .int .i64 x1_1, .slice x1_2 x1_2n x1_2c] ⟨false, 0⟩]) ++ [AObj.cells [.int .i64 x2] ⟨false, 0⟩])) 1)) fun x_16 =>
        (Option.bind (sliceOf? (AMem.ld M_14 (List.length (((M ++ [AObj.cells [.int .i64 x0_0, .int .i64 x0_1, .slice x0_2 x0_2n x0_2c] ⟨false, 0⟩]) ++ [AObj.cells [.int .i64 x1_0, .int .i64 x1_1, .slice x1_2 x1_2n x1_2c] ⟨false, 0⟩]) ++ [AObj.cells [.int .i64 x2] ⟨false, 0⟩])) 2)) fun s_17 =>
        some (.tuple #[.agg #[.int .i64 x_15, .int .i64 x_16, .slice s_17.1 s_17.2.1 s_17.2.2], .bool false], M_14)))))
      else (Option.bind (intOf? .i64 (AMem.ld r_7.2 (List.length ((M ++ [AObj.cells [.int .i64 x0_0, .int .i64 x0_1, .slice x0_2 x0_2n x0_2c] ⟨false, 0⟩]) ++ [AObj.cells [.int .i64 x1_0, .int .i64 x1_1, .slice x1_2 x1_2n x1_2c] ⟨false, 0⟩])) 0)) fun x_18 =>
        (if (decide (x_18 > 1000)) = true
        then (Option.bind (AMem.wr r_7.2 (List.length (((M ++ [AObj.cells [.int .i64 x0_0, .int .i64 x0_1, .slice x0_2 x0_2n x0_2c] ⟨false, 0⟩]) ++ [AObj.cells [.int .i64 x1_0, .int .i64 x1_1, .slice x1_2 x1_2n x1_2c] ⟨false, 0⟩]) ++ [AObj.cells [.int .i64 x2] ⟨false, 0⟩])) 0 [.int .i64 0, .int .i64 0, .slice none 0 0]) fun M_19 =>
          (Option.bind (intOf? .i64 (AMem.ld M_19 (List.length (((M ++ [AObj.cells [.int .i64 x0_0, .int .i64 x0_1, .slice x0_2 x0_2n x0_2c] ⟨false, 0⟩]) ++ [AObj.cells [.int .i64 x1_0, .int .i64 x1_1, .slice x1_2 x1_2n x1_2c] ⟨false, 0⟩]) ++ [AObj.cells [.int .i64 x2] ⟨false, 0⟩])) 0)) fun x_20 =>
          (Option.bind (intOf? .i64 (AMem.ld M_19 (List.length (((M ++ [AObj.cells [.int .i64 x0_0, .int .i64 x0_1, .slice x0_2 x0_2n x0_2c] ⟨false, 0⟩]) ++ [AObj.cells [.int .i64 x1_0, .int .i64 x1_1, .slice x1_2 x1_2n x1_2c] ⟨false, 0⟩]) ++ [AObj.cells [.int .i64 x2] ⟨false, 0⟩])) 1)) fun x_21 =>
          (Option.bind (sliceOf? (AMem.ld M_19 (List.length (((M ++ [AObj.cells [.int .i64 x0_0, .int .i64 x0_1, .slice x0_2 x0_2n x0_2c] ⟨false, 0⟩]) ++ [AObj.cells [.int .i64 x1_0, .int .i64 x1_1, .slice x1_2 x1_2n x1_2c] ⟨false, 0⟩]) ++ [AObj.cells [.int .i64 x2] ⟨false, 0⟩])) 2)) fun s_22 =>
          some (.tuple #[.agg #[.int .i64 x_20, .int .i64 x_21, .slice s_22.1 s_22.2.1 s_22.2.2], .bool false], M_19)))))
        else (Option.bind (intOf? .i64 (AMem.ld (r_7.2 ++ [AObj.cells [.int .i64 0, .int .i64 0, .slice none 0 0] ⟨false, 0⟩]) (List.length M) 0)) fun x_23 =>
          (Option.bind (intOf? .i64 (AMem.ld (r_7.2 ++ [AObj.cells [.int .i64 0, .int .i64 0, .slice none 0 0] ⟨false, 0⟩]) (List.length M) 1)) fun x_24 =>
          (Option.bind (sliceOf? (AMem.ld (r_7.2 ++ [AObj.cells [.int .i64 0, .int .i64 0, .slice none 0 0] ⟨false, 0⟩]) (List.length M) 2)) fun s_25 =>
          (if (0 : Int) ≤ (Int.ofNat s_25.2.1) ∧ (Int.ofNat s_25.2.1) ≤ (Int.ofNat s_25.2.1) ∧ (Int.ofNat s_25.2.1) ≤ 140737488355328 ∧ (Int.ofNat s_25.2.1) * 24 ≤ 140737488355328
          then (Option.bind (AMem.wr ((r_7.2 ++ [AObj.cells [.int .i64 0, .int .i64 0, .slice none 0 0] ⟨false, 0⟩]) ++ [AObj.cells ((List.replicate (Int.toNat (Int.ofNat s_25.2.1)) [.int .i64 0, .int .i64 0, .int .i64 0]).flatten) ⟨false, 0⟩]) (List.length r_7.2) 0 [.int .i64 x_23, .int .i64 x_24, .slice (some ⟨(List.length (r_7.2 ++ [AObj.cells [.int .i64 0, .int .i64 0, .slice none 0 0] ⟨false, 0⟩])), 0, none⟩) (Int.toNat (Int.ofNat s_25.2.1)) 3]) fun M_26 =>
            (if chkOk [(1, 7), (3, 7), (9, 7)] [(9, (List.length r_7.2)), (3, (List.length M)), (1, (List.length M))] [(7, ((r_7.2 ++ [AObj.cells [.int .i64 0, .int .i64 0, .slice none 0 0] ⟨false, 0⟩]), ((r_7.2 ++ [AObj.cells [.int .i64 0, .int .i64 0, .slice none 0 0] ⟨false, 0⟩]) ++ [AObj.cells ((List.replicate (Int.toNat (Int.ofNat s_25.2.1)) [.int .i64 0, .int .i64 0, .int .i64 0]).flatten) ⟨false, 0⟩])))] = true
            then (Option.bind (intOf? .i64 (AMem.ld M_26 (List.length M) 0)) fun x_27 =>
              (Option.bind (intOf? .i64 (AMem.ld M_26 (List.length M) 1)) fun x_28 =>
              (Option.bind (sliceOf? (AMem.ld M_26 (List.length M) 2)) fun s_29 =>
              (Option.bind (intOf? .i64 (AMem.ld M_26 (List.length (M ++ [AObj.cells [.int .i64 x0_0, .int .i64 x0_1, .slice x0_2 x0_2n x0_2c] ⟨false, 0⟩])) 0)) fun x_30 =>
              (Option.bind (intOf? .i64 (AMem.ld M_26 (List.length (M ++ [AObj.cells [.int .i64 x0_0, .int .i64 x0_1, .slice x0_2 x0_2n x0_2c] ⟨false, 0⟩])) 1)) fun x_31 =>
              (Option.bind (sliceOf? (AMem.ld M_26 (List.length (M ++ [AObj.cells [.int .i64 x0_0, .int .i64 x0_1, .slice x0_2 x0_2n x0_2c] ⟨false, 0⟩])) 2)) fun s_32 =>
              (Option.bind (L.call 21 [.agg #[.int .i64 x_27, .int .i64 x_28, .slice s_29.1 s_29.2.1 s_29.2.2], .agg #[.int .i64 x_30, .int .i64 x_31, .slice s_32.1 s_32.2.1 s_32.2.2]] M_26) fun r_33 =>
              (Option.bind (anyOf? (some r_33.1)) fun u_34 =>
              (funK u_34 fun g_39 f_40 c_41 =>
              (Option.bind (L.call g_39 (f_40 ++ [.func (.yield (List.length r_33.2)) #[] #[]] ++ c_41) (r_33.2 ++ [AObj.loop (lo13_16 .ready none (List.length ((M ++ [AObj.cells [.int .i64 x0_0, .int .i64 x0_1, .slice x0_2 x0_2n x0_2c] ⟨false, 0⟩]) ++ [AObj.cells [.int .i64 x1_0, .int .i64 x1_1, .slice x1_2 x1_2n x1_2c] ⟨false, 0⟩])) (List.length (((M ++ [AObj.cells [.int .i64 x0_0, .int .i64 x0_1, .slice x0_2 x0_2n x0_2c] ⟨false, 0⟩]) ++ [AObj.cells [.int .i64 x1_0, .int .i64 x1_1, .slice x1_2 x1_2n x1_2c] ⟨false, 0⟩]) ++ [AObj.cells [.int .i64 x2] ⟨false, 0⟩])) false (List.length r_7.2) u_34)])) fun r_35 =>
              rangeK (List.length r_33.2) r_35 (fun M_37 =>
              P13_37 L (List.length (((M ++ [AObj.cells [.int .i64 x0_0, .int .i64 x0_1, .slice x0_2 x0_2n x0_2c] ⟨false, 0⟩]) ++ [AObj.cells [.int .i64 x1_0, .int .i64 x1_1, .slice x1_2 x1_2n x1_2c] ⟨false, 0⟩]) ++ [AObj.cells [.int .i64 x2] ⟨false, 0⟩])) (List.length r_7.2) M_37) (fun e_36 M_38 => (blockK 0 (seqK (code L (.clear [0, 1, 2, 3, 4, 5, 7, 9, 10, 11, 12, 13, 14, 15, 16, 17, 18, 19, 20, 21, 22, 23, 24, 25, 26, 27, 28, 29, 30, 31, 32, 33, 34, 35, 36, 37, 38, 39, 40, 41, 42, 43, 44, 45, 46, 47, 48, 49, 50, 51, 52, 53, 54, 55, 56, 57, 58, 59, 60, 61, 62, 63, 64, 65] c13_37) (retK [.cell true [.int .i64, .int .i64, .slice] 6, .tmp 7])) (retK [.cell true [.int .i64, .int .i64, .slice] 6, .tmp 7]))) e_36 [junk, junk, junk, junk, junk, .pointer (some ⟨(List.length ((M ++ [AObj.cells [.int .i64 x0_0, .int .i64 x0_1, .slice x0_2 x0_2n x0_2c] ⟨false, 0⟩]) ++ [AObj.cells [.int .i64 x1_0, .int .i64 x1_1, .slice x1_2 x1_2n x1_2c] ⟨false, 0⟩])), 0, none⟩), .pointer (some ⟨(List.length (((M ++ [AObj.cells [.int .i64 x0_0, .int .i64 x0_1, .slice x0_2 x0_2n x0_2c] ⟨false, 0⟩]) ++ [AObj.cells [.int .i64 x1_0, .int .i64 x1_1, .slice x1_2 x1_2n x1_2c] ⟨false, 0⟩]) ++ [AObj.cells [.int .i64 x2] ⟨false, 0⟩])), 0, none⟩), .bool false, .pointer (some ⟨(List.length r_7.2), 0, none⟩), junk, junk, junk, junk, junk, junk, junk, junk, junk, junk, junk, junk, junk, junk, junk, junk, junk, junk, junk, junk, junk, junk, junk, junk, junk, junk, junk, junk, u_34, .tuple #[], .tuple #[], junk, junk, junk, junk, junk, junk, junk, junk, junk, junk, junk, junk, junk, junk, junk, junk, junk, junk, junk, junk, junk, junk, junk, junk, junk, junk] M_38)))))))))))
            else none))
          else none))))))))))))))))) := QE13 L P13_37 (Classical.choose_spec XP13_37) x0_0 x0_1 x0_2 x0_2n x0_2c x1_0 x1_1 x1_2 x1_2n x1_2c x2 M
/-! #### diff.Root -/
theorem E17 (L : Rec) (x0_0 : Int) (x0_1 : Int) (x0_2 : Int) (x0_3 : Int) (x1 : Int) : enterF L a17 [.agg #[.int .i64 x0_0, .int .i64 x0_1, .int .i64 x0_2, .int .i64 x0_3], .int .i64 x1] [] =
  (if (decide (x0_3 < 0)) = true
    then some (.int .i64 0, ([AObj.cells [.int .i64 x0_0, .int .i64 x0_1, .int .i64 x0_2, .int .i64 x0_3] ⟨false, 0⟩] : AMem))
    else (if (decide (x0_3 > 1099511627776)) = true
      then some (.int .i64 0, ([AObj.cells [.int .i64 x0_0, .int .i64 x0_1, .int .i64 x0_2, .int .i64 x0_3] ⟨false, 0⟩] : AMem))
      else (if (decide (x1 < 1)) = true
        then some (.int .i64 0, ([AObj.cells [.int .i64 x0_0, .int .i64 x0_1, .int .i64 x0_2, .int .i64 x0_3] ⟨false, 0⟩] : AMem))
        else (if (decide (x1 > 65536)) = true
          then some (.int .i64 0, ([AObj.cells [.int .i64 x0_0, .int .i64 x0_1, .int .i64 x0_2, .int .i64 x0_3] ⟨false, 0⟩] : AMem))
          else (if (IntKind.wrap .i64 (3 * x1)) = 0
            then none
            else (Option.bind (L.call 24 [.int .u64 (IntKind.wrap .u64 (IntKind.wrap .i64 (Int.tdiv x0_3 (IntKind.wrap .i64 (3 * x1)))))] []) fun r_1 =>
              (Option.bind (intOf? .i64 (some r_1.1)) fun x_2 =>
              some (.int .i64 x_2, ([AObj.cells [.int .i64 x0_0, .int .i64 x0_1, .int .i64 x0_2, .int .i64 x0_3] ⟨false, 0⟩] : AMem))))))))) := by kernel_rfl
/-! #### slices.Clone[[][3]int,[3]int] -/
theorem E22 (L : Rec) (x0 : Option Addr) (x0n : Nat) (x0c : Nat) (M : AMem) : enterF L a22 [.slice x0 x0n x0c] M =
  (if (Option.isNone x0) = true
    then some (.slice none 0 0, M)
    else (Option.bind (rowOf (M ++ [AObj.cells [] ⟨false, 0⟩]) 3 (.slice x0 x0n x0c)) fun row_1 =>
      (appendK 3 24 (some ⟨(List.length M), 0, none⟩) 0 3 x0n row_1 (M ++ [AObj.cells [] ⟨false, 0⟩]) fun p_2 n_3 c_4 M_5 =>
      some (.slice p_2 n_3 c_4, M_5)))) := by kernel_rfl
/-! #### num.Root -/
noncomputable def k24_13 (L : Rec) : KT := blockK 0 (retK [.tmp 2])
def s24_13 (x0 : Int) (x3 : Int) : List Value := [.int .u64 x0, junk, junk, .int .u64 x3, junk, junk, junk, junk, junk, junk, junk, junk, junk, junk, junk, junk, junk, junk, junk, junk, junk, junk, junk, junk]
theorem XP24_13 : ∃ P : Rec → Int → Int → Res, P = fun (L : Rec) (x0 : Int) (x3 : Int) => L.loop b24_13 (k24_13 L) (s24_13 x0 x3) ([] : AMem) := ⟨_, rfl⟩
noncomputable def P24_13 : Rec → Int → Int → Res := Classical.choose XP24_13
theorem QP24_13_eq (L : Rec) (b24_13 : ACode) (hb : ∀ K t A, L.loop b24_13 K t A = code L (.post (.block 1 (.seq (.ops o24_16) (.seq (.seq (.ops o24_19) (.cond (.tmp 20) (.seq (.ops o24_22) (.ret)) (.skip))) (.ops o24_25)))) [1, 2, 4, 5, 6, 7, 8, 9, 10, 11, 12, 13, 14, 15, 16, 17, 18, 19, 20, 21, 22, 23]) (loopK L b24_13 K) t A) (P24_13 : Rec → Int → Int → Res) (hP24_13 : P24_13 = fun (L : Rec) (x0 : Int) (x3 : Int) => L.loop b24_13 (blockK 0 (retK [.tmp 2])) (s24_13 x0 x3) ([] : AMem)) (x0 : Int) (x3 : Int) : P24_13 L x0 x3 =
  (if x3 = 0
    then none
    else (if (decide ((IntKind.wrap .u64 (Int.tdiv (IntKind.wrap .u64 (x3 + (IntKind.wrap .u64 (Int.tdiv x0 x3)))) 2)) ≥ x3)) = true
      then some (.int .i64 (IntKind.wrap .i64 x3), ([] : AMem))
      else P24_13 L x0 (IntKind.wrap .u64 (Int.tdiv (IntKind.wrap .u64 (x3 + (IntKind.wrap .u64 (Int.tdiv x0 x3)))) 2)))) := by
  subst hP24_13; exact (hb (blockK 0 (retK [.tmp 2])) (s24_13 x0 x3) ([] : AMem)).trans (by kernel_rfl)
theorem P24_13_eq (L : Rec) (hL : ∀ b K t A, L.loop b K t A = code L b (loopK L b K) t A) (x0 : Int) (x3 : Int) : P24_13 L x0 x3 =
  (if x3 = 0
    then none
    else (if (decide ((IntKind.wrap .u64 (Int.tdiv (IntKind.wrap .u64 (x3 + (IntKind.wrap .u64 (Int.tdiv x0 x3)))) 2)) ≥ x3)) = true
      then some (.int .i64 (IntKind.wrap .i64 x3), ([] : AMem))
      else P24_13 L x0 (IntKind.wrap .u64 (Int.tdiv (IntKind.wrap .u64 (x3 + (IntKind.wrap .u64 (Int.tdiv x0 x3)))) 2)))) := QP24_13_eq L b24_13 (hL b24_13) P24_13 (Classical.choose_spec XP24_13) x0 x3
theorem QE24 (L : Rec) (b24_13 : ACode) (P24_13 : Rec → Int → Int → Res) (hP24_13 : P24_13 = fun (L : Rec) (x0 : Int) (x3 : Int) => L.loop b24_13 (blockK 0 (retK [.tmp 2])) (s24_13 x0 x3) ([] : AMem)) (x0 : Int) : enterF L ⟨24, [.tmp 2], .seq (.ops o24_1) (.seq (.seq (.ops o24_4) (.cond (.tmp 6) (.seq (.ops o24_7) (.ret)) (.skip))) (.seq (.ops o24_11) (.block 0 (.clear [1, 2, 4, 5, 6, 7, 8, 9, 10, 11, 12, 13, 14, 15, 16, 17, 18, 19, 20, 21, 22, 23] (.loop b24_13)))))⟩ [.int .u64 x0] [] =
  (if (x0 == 0) = true
    then some (.int .i64 0, ([] : AMem))
    else (Option.bind (L.call 29 [.int .u64 x0] []) fun r_1 =>
      (Option.bind (intOf? .i64 (some r_1.1)) fun x_2 =>
      (if (IntKind.wrap .i64 (Int.tdiv (IntKind.wrap .i64 (x_2 + 1)) 2)) < 0
      then none
      else P24_13 L x0 (IntKind.wrap .u64 (1 * 2 ^ (min (Int.toNat (IntKind.wrap .i64 (Int.tdiv (IntKind.wrap .i64 (x_2 + 1)) 2))) (IntKind.bits .u64)))))))) := by
  subst hP24_13; kernel_rfl
theorem E24 (L : Rec) (x0 : Int) : enterF L a24 [.int .u64 x0] [] =
  (if (x0 == 0) = true
    then some (.int .i64 0, ([] : AMem))
    else (Option.bind (L.call 29 [.int .u64 x0] []) fun r_1 =>
      (Option.bind (intOf? .i64 (some r_1.1)) fun x_2 =>
      (if (IntKind.wrap .i64 (Int.tdiv (IntKind.wrap .i64 (x_2 + 1)) 2)) < 0
      then none
      else P24_13 L x0 (IntKind.wrap .u64 (1 * 2 ^ (min (Int.toNat (IntKind.wrap .i64 (Int.tdiv (IntKind.wrap .i64 (x_2 + 1)) 2))) (IntKind.bits .u64)))))))) := QE24 L b24_13 P24_13 (Classical.choose_spec XP24_13) x0
end Go.Proofs.Ytkjgmcjdblhkeaa
