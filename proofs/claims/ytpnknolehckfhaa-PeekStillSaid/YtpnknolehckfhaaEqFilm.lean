/- What the pieces of some functions come to. -/
import Derived.Test.YtpnknolehckfhaaCode
set_option linter.unusedVariables false
set_option maxRecDepth 100000
namespace Go.Proofs.Ytpnknolehckfhaa
open Go Go.Ax
/-! #### layout.Film -/
noncomputable def k34_18 (L : Rec) : KT := blockK 0 (seqK (code L (.clear zl61 c34_31) (retK [.tmp 4])) (retK [.tmp 4]))
def s34_18 (x5 : Option Addr) (x5n : Nat) (x5c : Nat) (x6 : Nat) (x6n : Nat) (x29 : Int) (x30 : Int) (M : AMem) : List Value := [junk, junk, junk, junk, junk, .slice x5 x5n x5c, .slice (some ⟨x6, 0, none⟩) x6n 3, junk, junk, junk, junk, junk, junk, junk, junk, junk, junk, junk, junk, junk, junk, junk, junk, junk, junk, junk, junk, junk, junk, .int .i64 x29, .int .i64 x30, junk, junk, junk, junk, junk, junk, junk, junk, junk, junk, junk, junk, junk]
theorem XP34_18 : ∃ P : Rec → (Option Addr) → Nat → Nat → Nat → Nat → Int → Int → AMem → Res, P = fun (L : Rec) (x5 : Option Addr) (x5n : Nat) (x5c : Nat) (x6 : Nat) (x6n : Nat) (x29 : Int) (x30 : Int) (M : AMem) => L.loop b34_18 (k34_18 L) (s34_18 x5 x5n x5c x6 x6n x29 x30 M) M := ⟨_, rfl⟩
noncomputable def P34_18 : Rec → (Option Addr) → Nat → Nat → Nat → Nat → Int → Int → AMem → Res := Classical.choose XP34_18
noncomputable def k34_30 (L : Rec) : KT := postK zl60 (loopK L b34_18 (blockK 0 (seqK (code L (.clear zl61 c34_31) (retK [.tmp 4])) (retK [.tmp 4]))))
def s34_30 (x5 : Option Addr) (x5n : Nat) (x5c : Nat) (x6 : Nat) (x6n : Nat) (x29 : Int) (x30 : Int) (M : AMem) : List Value := [junk, junk, junk, junk, junk, .slice x5 x5n x5c, .slice (some ⟨x6, 0, none⟩) x6n 3, junk, junk, junk, junk, junk, junk, junk, junk, junk, junk, junk, junk, junk, junk, junk, junk, junk, junk, junk, junk, junk, junk, .int .i64 x29, .int .i64 x30, junk, junk, junk, junk, junk, junk, junk, junk, junk, junk, junk, junk, junk]
theorem XP34_30 : ∃ P : Rec → (Option Addr) → Nat → Nat → Nat → Nat → Int → Int → AMem → Res, P = fun (L : Rec) (x5 : Option Addr) (x5n : Nat) (x5c : Nat) (x6 : Nat) (x6n : Nat) (x29 : Int) (x30 : Int) (M : AMem) => code L c34_30 (k34_30 L) (s34_30 x5 x5n x5c x6 x6n x29 x30 M) M := ⟨_, rfl⟩
noncomputable def P34_30 : Rec → (Option Addr) → Nat → Nat → Nat → Nat → Int → Int → AMem → Res := Classical.choose XP34_30
noncomputable def k34_31 (L : Rec) : KT := retK [.tmp 4]
def s34_31 (x6 : Nat) (x6n : Nat) (M : AMem) : List Value := [junk, junk, junk, junk, junk, junk, .slice (some ⟨x6, 0, none⟩) x6n 3, junk, junk, junk, junk, junk, junk, junk, junk, junk, junk, junk, junk, junk, junk, junk, junk, junk, junk, junk, junk, junk, junk, junk, junk, junk, junk, junk, junk, junk, junk, junk, junk, junk, junk, junk, junk, junk]
theorem XP34_31 : ∃ P : Rec → Nat → Nat → AMem → Res, P = fun (L : Rec) (x6 : Nat) (x6n : Nat) (M : AMem) => code L c34_31 (k34_31 L) (s34_31 x6 x6n M) M := ⟨_, rfl⟩
noncomputable def P34_31 : Rec → Nat → Nat → AMem → Res := Classical.choose XP34_31
theorem QP34_18_eq (L : Rec) (b34_18 c34_30 c34_31 : ACode) (hb : ∀ K t A, L.loop b34_18 K t A = code L (.post (.seq (.ops o34_20) (.seq (.cond (.tmp 31) (.skip) (.exit 0)) (.seq (.block 1 (.seq (.ops o34_28) (.draw [] 0 o34_29 []))) (.clear zl60 c34_30)))) zl60) (loopK L b34_18 K) t A) (P34_18 : Rec → (Option Addr) → Nat → Nat → Nat → Nat → Int → Int → AMem → Res) (hP34_18 : Eq P34_18 fun L x5 x5n x5c x6 x6n x29 x30 M => L.loop b34_18 (blockK 0 (seqK (code L (.clear zl61 c34_31) (retK [.tmp 4])) (retK [.tmp 4]))) (s34_18 x5 x5n x5c x6 x6n x29 x30 M) M) (P34_30 : Rec → (Option Addr) → Nat → Nat → Nat → Nat → Int → Int → AMem → Res) (hP34_30 : Eq P34_30 fun L x5 x5n x5c x6 x6n x29 x30 M => code L c34_30 (postK zl60 (loopK L b34_18 (blockK 0 (seqK (code L (.clear zl61 c34_31) (retK [.tmp 4])) (retK [.tmp 4]))))) (s34_30 x5 x5n x5c x6 x6n x29 x30 M) M) (P34_31 : Rec → Nat → Nat → AMem → Res) (hP34_31 : Eq P34_31 fun L x6 x6n M => code L c34_31 (retK [.tmp 4]) (s34_31 x6 x6n M) M) (x5 : Option Addr) (x5n : Nat) (x5c : Nat) (x6 : Nat) (x6n : Nat) (x29 : Int) (x30 : Int) (M : AMem) : P34_18 L x5 x5n x5c x6 x6n x29 x30 M =
  (if (decide (x30 < x29)) = true
    then (if (0 : Int) ≤ x30 ∧ x30 < (Int.ofNat x6n)
      then (if (0 : Int) ≤ (IntKind.wrap .i64 (3 * x30)) ∧ (IntKind.wrap .i64 (3 * x30)) ≤ (Int.ofNat x5n) ∧ (Int.ofNat x5n) ≤ (Int.ofNat x5n)
        then (Option.bind (rowOf M 1 (.slice (Option.map (fun p => (⟨p.block, p.off + ((Int.toNat (IntKind.wrap .i64 (3 * x30))) * 1), p.spot⟩ : Addr)) x5) (Int.toNat ((Int.ofNat x5n) - (IntKind.wrap .i64 (3 * x30)))) (if x5c = 1 then 1 else 0))) fun row_1 =>
          (copyK 1 (some ⟨x6, (0 + ((Int.toNat x30) * 3)), none⟩) 3 (Int.toNat ((Int.ofNat x5n) - (IntKind.wrap .i64 (3 * x30)))) row_1 M fun n_2 M_3 =>
          P34_30 L x5 x5n x5c x6 x6n x29 x30 M_3))
        else none)
      else none)
    else P34_31 L x6 x6n M) := by
  subst hP34_18; subst hP34_30; subst hP34_31; exact (hb (blockK 0 (seqK (code L (.clear zl61 c34_31) (retK [.tmp 4])) (retK [.tmp 4]))) (s34_18 x5 x5n x5c x6 x6n x29 x30 M) M).trans (by kernel_rfl)
theorem P34_18_eq (L : Rec) (hL : ∀ b K t A, L.loop b K t A = code L b (loopK L b K) t A) (x5 : Option Addr) (x5n : Nat) (x5c : Nat) (x6 : Nat) (x6n : Nat) (x29 : Int) (x30 : Int) (M : AMem) : P34_18 L x5 x5n x5c x6 x6n x29 x30 M =
  (if (decide (x30 < x29)) = true
    then (if (0 : Int) ≤ x30 ∧ x30 < (Int.ofNat x6n)
      then (if (0 : Int) ≤ (IntKind.wrap .i64 (3 * x30)) ∧ (IntKind.wrap .i64 (3 * x30)) ≤ (Int.ofNat x5n) ∧ (Int.ofNat x5n) ≤ (Int.ofNat x5n)
        then (Option.bind (rowOf M 1 (.slice (Option.map (fun p => (⟨p.block, p.off + ((Int.toNat (IntKind.wrap .i64 (3 * x30))) * 1), p.spot⟩ : Addr)) x5) (Int.toNat ((Int.ofNat x5n) - (IntKind.wrap .i64 (3 * x30)))) (if x5c = 1 then 1 else 0))) fun row_1 =>
          (copyK 1 (some ⟨x6, (0 + ((Int.toNat x30) * 3)), none⟩) 3 (Int.toNat ((Int.ofNat x5n) - (IntKind.wrap .i64 (3 * x30)))) row_1 M fun n_2 M_3 =>
          P34_30 L x5 x5n x5c x6 x6n x29 x30 M_3))
        else none)
      else none)
    else P34_31 L x6 x6n M) := QP34_18_eq L b34_18 c34_30 c34_31 (hL b34_18) P34_18 (Classical.choose_spec XP34_18) P34_30 (Classical.choose_spec XP34_30) P34_31 (Classical.choose_spec XP34_31) x5 x5n x5c x6 x6n x29 x30 M
theorem QP34_30_eq (L : Rec) (b34_18 c34_31 : ACode) (P34_18 : Rec → (Option Addr) → Nat → Nat → Nat → Nat → Int → Int → AMem → Res) (hP34_18 : Eq P34_18 fun L x5 x5n x5c x6 x6n x29 x30 M => L.loop b34_18 (blockK 0 (seqK (code L (.clear zl61 c34_31) (retK [.tmp 4])) (retK [.tmp 4]))) (s34_18 x5 x5n x5c x6 x6n x29 x30 M) M) (P34_30 : Rec → (Option Addr) → Nat → Nat → Nat → Nat → Int → Int → AMem → Res) (hP34_30 : Eq P34_30 fun L x5 x5n x5c x6 x6n x29 x30 M => code L (.ops o34_30) (postK zl60 (loopK L b34_18 (blockK 0 (seqK (code L (.clear zl61 c34_31) (retK [.tmp 4])) (retK [.tmp 4]))))) (s34_30 x5 x5n x5c x6 x6n x29 x30 M) M) (x5 : Option Addr) (x5n : Nat) (x5c : Nat) (x6 : Nat) (x6n : Nat) (x29 : Int) (x30 : Int) (M : AMem) : P34_30 L x5 x5n x5c x6 x6n x29 x30 M =
  P34_18 L x5 x5n x5c x6 x6n x29 (IntKind.wrap .i64 (x30 + 1)) M := by
  subst hP34_18; subst hP34_30; kernel_rfl
theorem P34_30_eq (L : Rec) (x5 : Option Addr) (x5n : Nat) (x5c : Nat) (x6 : Nat) (x6n : Nat) (x29 : Int) (x30 : Int) (M : AMem) : P34_30 L x5 x5n x5c x6 x6n x29 x30 M =
  P34_18 L x5 x5n x5c x6 x6n x29 (IntKind.wrap .i64 (x30 + 1)) M := QP34_30_eq L b34_18 c34_31 P34_18 (Classical.choose_spec XP34_18) P34_30 (Classical.choose_spec XP34_30) x5 x5n x5c x6 x6n x29 x30 M
theorem QP34_31_eq (L : Rec) (P34_31 : Rec → Nat → Nat → AMem → Res) (hP34_31 : Eq P34_31 fun L x6 x6n M => code L (.seq (.ops o34_32) (.ret)) (retK [.tmp 4]) (s34_31 x6 x6n M) M) (x6 : Nat) (x6n : Nat) (M : AMem) : P34_31 L x6 x6n M =
  some (.slice (some ⟨x6, 0, none⟩) x6n 3, M) := by
  subst hP34_31; kernel_rfl
theorem P34_31_eq (L : Rec) (x6 : Nat) (x6n : Nat) (M : AMem) : P34_31 L x6 x6n M =
  some (.slice (some ⟨x6, 0, none⟩) x6n 3, M) := QP34_31_eq L P34_31 (Classical.choose_spec XP34_31) x6 x6n M
theorem QE34 (L : Rec) (b34_18 c34_31 : ACode) (P34_18 : Rec → (Option Addr) → Nat → Nat → Nat → Nat → Int → Int → AMem → Res) (hP34_18 : Eq P34_18 fun L x5 x5n x5c x6 x6n x29 x30 M => L.loop b34_18 (blockK 0 (seqK (code L (.clear zl61 c34_31) (retK [.tmp 4])) (retK [.tmp 4]))) (s34_18 x5 x5n x5c x6 x6n x29 x30 M) M) (x0_0 : Int) (x0_1 : Int) (x1 : Option Addr) (M : AMem) : enterF L ⟨44, [.tmp 4], .seq (.ops o34_1) (.seq (.seq (.draw [] 0 o34_4 [(6, 5)]) (.cond (.tmp 17) (.seq (.ops o34_7) (.ret)) (.skip))) (.seq (.draw [] 0 o34_11 []) (.seq (.ops o34_13) (.seq (.seq (.ops o34_16) (.block 0 (.clear zl60 (.loop b34_18)))) (.clear zl61 c34_31)))))⟩ [.agg #[.int .i64 x0_0, .int .i64 x0_1], .pointer x1] M =
  (Option.bind (intOf? .i64 (AMem.ld (M ++ [AObj.cells [.int .i64 x0_0, .int .i64 x0_1] ⟨false, 0⟩]) (List.length M) 0)) fun x_1 =>
    (Option.bind (intOf? .i64 (AMem.ld (M ++ [AObj.cells [.int .i64 x0_0, .int .i64 x0_1] ⟨false, 0⟩]) (List.length M) 1)) fun x_2 =>
    (Option.bind (L.call 36 [.agg #[.int .i64 x_1, .int .i64 x_2]] []) fun r_3 =>
    (Option.bind (boolOf? (some r_3.1)) fun q_4 =>
    (if (!q_4) = true
    then (if chkOk [(6, 5)] [(6, (List.length M))] [(5, ((M ++ [AObj.cells [.int .i64 x0_0, .int .i64 x0_1] ⟨false, 0⟩]), (M ++ [AObj.cells [.int .i64 x0_0, .int .i64 x0_1] ⟨false, 0⟩])))] = true
      then some (.slice none 0 0, (M ++ [AObj.cells [.int .i64 x0_0, .int .i64 x0_1] ⟨false, 0⟩]))
      else none)
    else (Option.bind (L.call 41 [.pointer x1] (M ++ [AObj.cells [.int .i64 x0_0, .int .i64 x0_1] ⟨false, 0⟩])) fun r_5 =>
      (Option.bind (intOf? .i64 (some r_5.1)) fun x_6 =>
      (Option.bind (intOf? .i64 (AMem.ld r_5.2 (List.length M) 0)) fun x_7 =>
      (Option.bind (intOf? .i64 (AMem.ld r_5.2 (List.length M) 1)) fun x_8 =>
      (Option.bind (L.call 35 [.agg #[.int .i64 x_7, .int .i64 x_8]] []) fun r_9 =>
      (Option.bind (intOf? .i64 (some r_9.1)) fun x_10 =>
      (if chkOk [(6, 5)] [(6, (List.length M))] [(5, ((M ++ [AObj.cells [.int .i64 x0_0, .int .i64 x0_1] ⟨false, 0⟩]), r_5.2))] = true
      then (if (x_6 != x_10) = true
        then some (.slice none 0 0, r_5.2)
        else (Option.bind (intOf? .i64 (AMem.ld r_5.2 (List.length M) 0)) fun x_11 =>
          (Option.bind (intOf? .i64 (AMem.ld r_5.2 (List.length M) 1)) fun x_12 =>
          (Option.bind (L.call 53 [.agg #[.int .i64 x_11, .int .i64 x_12], .int .i64 4] []) fun r_13 =>
          (Option.bind (intOf? .i64 (some r_13.1)) fun x_14 =>
          (Option.bind (intOf? .i64 (AMem.ld r_5.2 (List.length M) 0)) fun x_15 =>
          (Option.bind (L.call 52 [.pointer x1, .int .i64 x_14, .int .i64 (IntKind.wrap .i64 (3 * x_15))] r_5.2) fun r_16 =>
          (Option.bind (sliceOf? (some r_16.1)) fun s_17 =>
          (Option.bind (intOf? .i64 (AMem.ld r_16.2 (List.length M) 0)) fun x_18 =>
          (if (0 : Int) ≤ x_18 ∧ x_18 ≤ x_18 ∧ x_18 ≤ 140737488355328 ∧ x_18 * 24 ≤ 140737488355328
          then P34_18 L s_17.1 s_17.2.1 s_17.2.2 (List.length r_16.2) (Int.toNat x_18) (Int.ofNat (Int.toNat x_18)) 0 (r_16.2 ++ [AObj.cells ((List.replicate (Int.toNat x_18) [.int .u64 0, .int .u64 0, .int .u64 0]).flatten) ⟨false, 0⟩])
          else none))))))))))
      else none)))))))))))) := by
  subst hP34_18; kernel_rfl
theorem E34 (L : Rec) (x0_0 : Int) (x0_1 : Int) (x1 : Option Addr) (M : AMem) : enterF L a34 [.agg #[.int .i64 x0_0, .int .i64 x0_1], .pointer x1] M =
  (Option.bind (intOf? .i64 (AMem.ld (M ++ [AObj.cells [.int .i64 x0_0, .int .i64 x0_1] ⟨false, 0⟩]) (List.length M) 0)) fun x_1 =>
    (Option.bind (intOf? .i64 (AMem.ld (M ++ [AObj.cells [.int .i64 x0_0, .int .i64 x0_1] ⟨false, 0⟩]) (List.length M) 1)) fun x_2 =>
    (Option.bind (L.call 36 [.agg #[.int .i64 x_1, .int .i64 x_2]] []) fun r_3 =>
    (Option.bind (boolOf? (some r_3.1)) fun q_4 =>
    (if (!q_4) = true
    then (if chkOk [(6, 5)] [(6, (List.length M))] [(5, ((M ++ [AObj.cells [.int .i64 x0_0, .int .i64 x0_1] ⟨false, 0⟩]), (M ++ [AObj.cells [.int .i64 x0_0, .int .i64 x0_1] ⟨false, 0⟩])))] = true
      then some (.slice none 0 0, (M ++ [AObj.cells [.int .i64 x0_0, .int .i64 x0_1] ⟨false, 0⟩]))
      else none)
    else (Option.bind (L.call 41 [.pointer x1] (M ++ [AObj.cells [.int .i64 x0_0, .int .i64 x0_1] ⟨false, 0⟩])) fun r_5 =>
      (Option.bind (intOf? .i64 (some r_5.1)) fun x_6 =>
      (Option.bind (intOf? .i64 (AMem.ld r_5.2 (List.length M) 0)) fun x_7 =>
      (Option.bind (intOf? .i64 (AMem.ld r_5.2 (List.length M) 1)) fun x_8 =>
      (Option.bind (L.call 35 [.agg #[.int .i64 x_7, .int .i64 x_8]] []) fun r_9 =>
      (Option.bind (intOf? .i64 (some r_9.1)) fun x_10 =>
      (if chkOk [(6, 5)] [(6, (List.length M))] [(5, ((M ++ [AObj.cells [.int .i64 x0_0, .int .i64 x0_1] ⟨false, 0⟩]), r_5.2))] = true
      then (if (x_6 != x_10) = true
        then some (.slice none 0 0, r_5.2)
        else (Option.bind (intOf? .i64 (AMem.ld r_5.2 (List.length M) 0)) fun x_11 =>
          (Option.bind (intOf? .i64 (AMem.ld r_5.2 (List.length M) 1)) fun x_12 =>
          (Option.bind (L.call 53 [.agg #[.int .i64 x_11, .int .i64 x_12], .int .i64 4] []) fun r_13 =>
          (Option.bind (intOf? .i64 (some r_13.1)) fun x_14 =>
          (Option.bind (intOf? .i64 (AMem.ld r_5.2 (List.length M) 0)) fun x_15 =>
          (Option.bind (L.call 52 [.pointer x1, .int .i64 x_14, .int .i64 (IntKind.wrap .i64 (3 * x_15))] r_5.2) fun r_16 =>
          (Option.bind (sliceOf? (some r_16.1)) fun s_17 =>
          (Option.bind (intOf? .i64 (AMem.ld r_16.2 (List.length M) 0)) fun x_18 =>
          (if (0 : Int) ≤ x_18 ∧ x_18 ≤ x_18 ∧ x_18 ≤ 140737488355328 ∧ x_18 * 24 ≤ 140737488355328
          then P34_18 L s_17.1 s_17.2.1 s_17.2.2 (List.length r_16.2) (Int.toNat x_18) (Int.ofNat (Int.toNat x_18)) 0 (r_16.2 ++ [AObj.cells ((List.replicate (Int.toNat x_18) [.int .u64 0, .int .u64 0, .int .u64 0]).flatten) ⟨false, 0⟩])
          else none))))))))))
      else none)))))))))))) := QE34 L b34_18 c34_31 P34_18 (Classical.choose_spec XP34_18) x0_0 x0_1 x1 M
end Go.Proofs.Ytpnknolehckfhaa
