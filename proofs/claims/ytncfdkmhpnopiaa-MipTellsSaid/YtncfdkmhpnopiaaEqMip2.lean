/- What the pieces of some functions come to. -/
import Derived.Test.YtncfdkmhpnopiaaCode
set_option linter.unusedVariables false
set_option maxRecDepth 100000
namespace Go.Proofs.Ytncfdkmhpnopiaa
open Go Go.Ax
/-! #### mip.pyramid -/
theorem E26 (L : Rec) (x0_0 : Int) (x0_1 : Int) (x0_2 : Option Addr) (x0_2n : Nat) (x0_2c : Nat) (M : AMem) : enterF L a26 [.agg #[.int .i64 x0_0, .int .i64 x0_1, .slice x0_2 x0_2n x0_2c]] M =
  some (.func (.func 34) #[] #[.pointer (some ⟨(List.length M), 0, none⟩)], (M ++ [AObj.cells [.int .i64 x0_0, .int .i64 x0_1, .slice x0_2 x0_2n x0_2c] ⟨false, 0⟩])) := by kernel_rfl
/-! #### mip.pyramid$1 -/
noncomputable def k34_1 (L : Rec) : KT := blockK 0 (retK [])
def s34_1 (x0 : Nat) (x1 : Nat) (M : AMem) : List Value := [.func (.yield x0) #[] #[], .pointer (some ⟨x1, 0, none⟩), junk, junk, junk, junk, junk, junk, junk, junk, junk, junk, junk, junk]
theorem XP34_1 : ∃ P : Rec → Nat → Nat → AMem → Res, P = fun (L : Rec) (x0 : Nat) (x1 : Nat) (M : AMem) => L.loop b34_1 (k34_1 L) (s34_1 x0 x1 M) M := ⟨_, rfl⟩
noncomputable def P34_1 : Rec → Nat → Nat → AMem → Res := Classical.choose XP34_1
theorem QP34_1_eq (L : Rec) (b34_1 : ACode) (hb : ∀ K t A, L.loop b34_1 K t A = code L (.post (.seq (.seq (.ops o34_4) (.cond (.tmp 11) (.skip) (.exit 0))) (.block 1 (.ops o34_9))) [2, 3, 4, 5, 6, 7, 8, 9, 10, 11, 12, 13]) (loopK L b34_1 K) t A) (P34_1 : Rec → Nat → Nat → AMem → Res) (hP34_1 : P34_1 = fun (L : Rec) (x0 : Nat) (x1 : Nat) (M : AMem) => L.loop b34_1 (blockK 0 (retK [])) (s34_1 x0 x1 M) M) (x0 : Nat) (x1 : Nat) (M : AMem) : P34_1 L x0 x1 M =
  (Option.bind (intOf? .i64 (AMem.ld M x1 0)) fun x_1 =>
    (Option.bind (intOf? .i64 (AMem.ld M x1 1)) fun x_2 =>
    (Option.bind (sliceOf? (AMem.ld M x1 2)) fun s_3 =>
    (Option.bind (L.round x0 [.agg #[.int .i64 x_1, .int .i64 x_2, .slice s_3.1 s_3.2.1 s_3.2.2]] M) fun r_4 =>
    (Option.bind (boolOf? (some r_4.1)) fun q_5 =>
    (if q_5 = true
    then (Option.bind (sliceOf? (AMem.ld r_4.2 x1 2)) fun s_6 =>
      (if (decide ((Int.ofNat s_6.2.1) > 1)) = true
      then (Option.bind (intOf? .i64 (AMem.ld r_4.2 x1 0)) fun x_7 =>
        (Option.bind (intOf? .i64 (AMem.ld r_4.2 x1 1)) fun x_8 =>
        (Option.bind (sliceOf? (AMem.ld r_4.2 x1 2)) fun s_9 =>
        (Option.bind (L.call 23 [.agg #[.int .i64 x_7, .int .i64 x_8, .slice s_9.1 s_9.2.1 s_9.2.2]] r_4.2) fun r_10 =>
        (Option.bind (aggOf? 3 r_10.1) fun cs_11 =>
        (Option.bind (intOf? .i64 (cs_11[0]?)) fun x_12 =>
        (Option.bind (intOf? .i64 (cs_11[1]?)) fun x_13 =>
        (Option.bind (sliceOf? (cs_11[2]?)) fun s_14 =>
        (Option.bind (AMem.wr r_10.2 x1 0 [.int .i64 x_12, .int .i64 x_13, .slice s_14.1 s_14.2.1 s_14.2.2]) fun M_15 =>
        P34_1 L x0 x1 M_15)))))))))
      else some (.tuple #[], r_4.2)))
    else some (.tuple #[], r_4.2))))))) := by
  subst hP34_1; exact (hb (blockK 0 (retK [])) (s34_1 x0 x1 M) M).trans (by kernel_rfl)
theorem P34_1_eq (L : Rec) (hL : ∀ b K t A, L.loop b K t A = code L b (loopK L b K) t A) (x0 : Nat) (x1 : Nat) (M : AMem) : P34_1 L x0 x1 M =
  (Option.bind (intOf? .i64 (AMem.ld M x1 0)) fun x_1 =>
    (Option.bind (intOf? .i64 (AMem.ld M x1 1)) fun x_2 =>
    (Option.bind (sliceOf? (AMem.ld M x1 2)) fun s_3 =>
    (Option.bind (L.round x0 [.agg #[.int .i64 x_1, .int .i64 x_2, .slice s_3.1 s_3.2.1 s_3.2.2]] M) fun r_4 =>
    (Option.bind (boolOf? (some r_4.1)) fun q_5 =>
    (if q_5 = true
    then (Option.bind (sliceOf? (AMem.ld r_4.2 x1 2)) fun s_6 =>
      (if (decide ((Int.ofNat s_6.2.1) > 1)) = true
      then (Option.bind (intOf? .i64 (AMem.ld r_4.2 x1 0)) fun x_7 =>
        (Option.bind (intOf? .i64 (AMem.ld r_4.2 x1 1)) fun x_8 =>
        (Option.bind (sliceOf? (AMem.ld r_4.2 x1 2)) fun s_9 =>
        (Option.bind (L.call 23 [.agg #[.int .i64 x_7, .int .i64 x_8, .slice s_9.1 s_9.2.1 s_9.2.2]] r_4.2) fun r_10 =>
        (Option.bind (aggOf? 3 r_10.1) fun cs_11 =>
        (Option.bind (intOf? .i64 (cs_11[0]?)) fun x_12 =>
        (Option.bind (intOf? .i64 (cs_11[1]?)) fun x_13 =>
        (Option.bind (sliceOf? (cs_11[2]?)) fun s_14 =>
        (Option.bind (AMem.wr r_10.2 x1 0 [.int .i64 x_12, .int .i64 x_13, .slice s_14.1 s_14.2.1 s_14.2.2]) fun M_15 =>
        P34_1 L x0 x1 M_15)))))))))
      else some (.tuple #[], r_4.2)))
    else some (.tuple #[], r_4.2))))))) := QP34_1_eq L b34_1 (hL b34_1) P34_1 (Classical.choose_spec XP34_1) x0 x1 M
theorem QE34 (L : Rec) (b34_1 : ACode) (P34_1 : Rec → Nat → Nat → AMem → Res) (hP34_1 : P34_1 = fun (L : Rec) (x0 : Nat) (x1 : Nat) (M : AMem) => L.loop b34_1 (blockK 0 (retK [])) (s34_1 x0 x1 M) M) (x0 : Nat) (x1 : Nat) (M : AMem) : enterF L ⟨14, [], .block 0 (.clear [2, 3, 4, 5, 6, 7, 8, 9, 10, 11, 12, 13] (.loop b34_1))⟩ [.func (.yield x0) #[] #[], .pointer (some ⟨x1, 0, none⟩)] M =
  P34_1 L x0 x1 M := by
  subst hP34_1; kernel_rfl
theorem E34 (L : Rec) (x0 : Nat) (x1 : Nat) (M : AMem) : enterF L a34 [.func (.yield x0) #[] #[], .pointer (some ⟨x1, 0, none⟩)] M =
  P34_1 L x0 x1 M := QE34 L b34_1 P34_1 (Classical.choose_spec XP34_1) x0 x1 M
/-! #### mip.Pyramid -/
theorem E14 (L : Rec) (x0_0 : Int) (x0_1 : Int) (x0_2 : Option Addr) (x0_2n : Nat) (x0_2c : Nat) (M : AMem) : enterF L a14 [.agg #[.int .i64 x0_0, .int .i64 x0_1, .slice x0_2 x0_2n x0_2c]] M =
  (Option.bind (intOf? .i64 (AMem.ld (M ++ [AObj.cells [.int .i64 x0_0, .int .i64 x0_1, .slice x0_2 x0_2n x0_2c] ⟨false, 0⟩]) (List.length M) 0)) fun x_1 =>
    (Option.bind (intOf? .i64 (AMem.ld (M ++ [AObj.cells [.int .i64 x0_0, .int .i64 x0_1, .slice x0_2 x0_2n x0_2c] ⟨false, 0⟩]) (List.length M) 1)) fun x_2 =>
    (Option.bind (sliceOf? (AMem.ld (M ++ [AObj.cells [.int .i64 x0_0, .int .i64 x0_1, .slice x0_2 x0_2n x0_2c] ⟨false, 0⟩]) (List.length M) 2)) fun s_3 =>
    (Option.bind (L.call 22 [.agg #[.int .i64 x_1, .int .i64 x_2, .slice s_3.1 s_3.2.1 s_3.2.2]] (M ++ [AObj.cells [.int .i64 x0_0, .int .i64 x0_1, .slice x0_2 x0_2n x0_2c] ⟨false, 0⟩])) fun r_4 =>
    (Option.bind (boolOf? (some r_4.1)) fun q_5 =>
    (if (!q_5) = true
    then some (.slice none 0 0, r_4.2)
    else (Option.bind (intOf? .i64 (AMem.ld r_4.2 (List.length M) 0)) fun x_6 =>
      (Option.bind (intOf? .i64 (AMem.ld r_4.2 (List.length M) 1)) fun x_7 =>
      (Option.bind (sliceOf? (AMem.ld r_4.2 (List.length M) 2)) fun s_8 =>
      (Option.bind (L.call 26 [.agg #[.int .i64 x_6, .int .i64 x_7, .slice s_8.1 s_8.2.1 s_8.2.2]] r_4.2) fun r_9 =>
      (Option.bind (anyOf? (some r_9.1)) fun u_10 =>
      (Option.bind (L.call 25 [u_10] r_9.2) fun r_11 =>
      (Option.bind (sliceOf? (some r_11.1)) fun s_12 =>
      some (.slice s_12.1 s_12.2.1 s_12.2.2, r_11.2)))))))))))))) := by kernel_rfl
/-! #### mip.Levels -/
theorem E15 (L : Rec) (x0 : Int) (x1 : Int) : enterF L a15 [.int .i64 x0, .int .i64 x1] [] =
  (if (decide ((if x1 < x0 then x1 else x0) < 1)) = true
    then some (.int .i64 0, ([] : AMem))
    else (if (decide ((if x1 > x0 then x1 else x0) > 256)) = true
      then some (.int .i64 0, ([] : AMem))
      else (Option.bind (L.call 27 [.int .u64 (IntKind.wrap .u64 (IntKind.wrap .i64 ((if x1 > x0 then x1 else x0) - 1)))] []) fun r_1 =>
        (Option.bind (intOf? .i64 (some r_1.1)) fun x_2 =>
        some (.int .i64 (IntKind.wrap .i64 (1 + x_2)), ([] : AMem)))))) := by kernel_rfl
/-! #### mip.Double -/
noncomputable def k11_16 (L : Rec) : KT := blockK 0 (seqK (code L (.clear zl25 c11_44) (retK [.cell true [.int .i64, .int .i64, .slice] 6, .tmp 7])) (retK [.cell true [.int .i64, .int .i64, .slice] 6, .tmp 7]))
def s11_16 (x1 : Int) (x3 : Nat) (x6 : Nat) (x8 : Nat) (x48 : Int) (x49 : Int) (M : AMem) : List Value := [junk, .int .i64 x1, junk, .pointer (some ⟨x3, 0, none⟩), junk, junk, .pointer (some ⟨x6, 0, none⟩), junk, .pointer (some ⟨x8, 0, none⟩), junk, junk, junk, junk, junk, junk, junk, junk, junk, junk, junk, junk, junk, junk, junk, junk, junk, junk, junk, junk, junk, junk, junk, junk, junk, junk, junk, junk, junk, junk, junk, junk, junk, junk, junk, junk, junk, junk, junk, .int .i64 x48, .int .i64 x49, junk, junk, junk, junk, junk, junk, junk, junk, junk, junk, junk, junk, junk, junk, junk, junk, junk, junk, junk, junk, junk, junk, junk, junk, junk, junk]
theorem XP11_16 : ∃ P : Rec → Int → Nat → Nat → Nat → Int → Int → AMem → Res, P = fun (L : Rec) (x1 : Int) (x3 : Nat) (x6 : Nat) (x8 : Nat) (x48 : Int) (x49 : Int) (M : AMem) => L.loop b11_16 (k11_16 L) (s11_16 x1 x3 x6 x8 x48 x49 M) M := ⟨_, rfl⟩
noncomputable def P11_16 : Rec → Int → Nat → Nat → Nat → Int → Int → AMem → Res := Classical.choose XP11_16
noncomputable def k11_30 (L : Rec) : KT := blockK 2 (blockK 1 (seqK (code L (.clear zl24 c11_43) (postK zl24 (loopK L b11_16 (blockK 0 (seqK (code L (.clear zl25 c11_44) (retK [.cell true [.int .i64, .int .i64, .slice] 6, .tmp 7])) (retK [.cell true [.int .i64, .int .i64, .slice] 6, .tmp 7])))))) (postK zl24 (loopK L b11_16 (blockK 0 (seqK (code L (.clear zl25 c11_44) (retK [.cell true [.int .i64, .int .i64, .slice] 6, .tmp 7])) (retK [.cell true [.int .i64, .int .i64, .slice] 6, .tmp 7])))))))
def s11_30 (x1 : Int) (x3 : Nat) (x6 : Nat) (x8 : Nat) (x9 : Int) (x48 : Int) (x49 : Int) (x52 : Int) (x53 : Int) (M : AMem) : List Value := [junk, .int .i64 x1, junk, .pointer (some ⟨x3, 0, none⟩), junk, junk, .pointer (some ⟨x6, 0, none⟩), junk, .pointer (some ⟨x8, 0, none⟩), .int .i64 x9, junk, junk, junk, junk, junk, junk, junk, junk, junk, junk, junk, junk, junk, junk, junk, junk, junk, junk, junk, junk, junk, junk, junk, junk, junk, junk, junk, junk, junk, junk, junk, junk, junk, junk, junk, junk, junk, junk, .int .i64 x48, .int .i64 x49, junk, junk, .int .i64 x52, .int .i64 x53, junk, junk, junk, junk, junk, junk, junk, junk, junk, junk, junk, junk, junk, junk, junk, junk, junk, junk, junk, junk, junk, junk]
theorem XP11_30 : ∃ P : Rec → Int → Nat → Nat → Nat → Int → Int → Int → Int → Int → AMem → Res, P = fun (L : Rec) (x1 : Int) (x3 : Nat) (x6 : Nat) (x8 : Nat) (x9 : Int) (x48 : Int) (x49 : Int) (x52 : Int) (x53 : Int) (M : AMem) => L.loop b11_30 (k11_30 L) (s11_30 x1 x3 x6 x8 x9 x48 x49 x52 x53 M) M := ⟨_, rfl⟩
noncomputable def P11_30 : Rec → Int → Nat → Nat → Nat → Int → Int → Int → Int → Int → AMem → Res := Classical.choose XP11_30
noncomputable def k11_44 (L : Rec) : KT := retK [.cell true [.int .i64, .int .i64, .slice] 6, .tmp 7]
def s11_44 (x6 : Nat) (x8 : Nat) (M : AMem) : List Value := [junk, junk, junk, junk, junk, junk, .pointer (some ⟨x6, 0, none⟩), junk, .pointer (some ⟨x8, 0, none⟩), junk, junk, junk, junk, junk, junk, junk, junk, junk, junk, junk, junk, junk, junk, junk, junk, junk, junk, junk, junk, junk, junk, junk, junk, junk, junk, junk, junk, junk, junk, junk, junk, junk, junk, junk, junk, junk, junk, junk, junk, junk, junk, junk, junk, junk, junk, junk, junk, junk, junk, junk, junk, junk, junk, junk, junk, junk, junk, junk, junk, junk, junk, junk, junk, junk, junk, junk]
theorem XP11_44 : ∃ P : Rec → Nat → Nat → AMem → Res, P = fun (L : Rec) (x6 : Nat) (x8 : Nat) (M : AMem) => code L c11_44 (k11_44 L) (s11_44 x6 x8 M) M := ⟨_, rfl⟩
noncomputable def P11_44 : Rec → Nat → Nat → AMem → Res := Classical.choose XP11_44
noncomputable def k11_42 (L : Rec) : KT := postK zl23 (loopK L b11_30 (blockK 2 (blockK 1 (seqK (code L (.clear zl24 c11_43) (postK zl24 (loopK L b11_16 (blockK 0 (seqK (code L (.clear zl25 c11_44) (retK [.cell true [.int .i64, .int .i64, .slice] 6, .tmp 7])) (retK [.cell true [.int .i64, .int .i64, .slice] 6, .tmp 7])))))) (postK zl24 (loopK L b11_16 (blockK 0 (seqK (code L (.clear zl25 c11_44) (retK [.cell true [.int .i64, .int .i64, .slice] 6, .tmp 7])) (retK [.cell true [.int .i64, .int .i64, .slice] 6, .tmp 7])))))))))
def s11_42 (x1 : Int) (x3 : Nat) (x6 : Nat) (x8 : Nat) (x9 : Int) (x48 : Int) (x49 : Int) (x52 : Int) (x53 : Int) (M : AMem) : List Value := [junk, .int .i64 x1, junk, .pointer (some ⟨x3, 0, none⟩), junk, junk, .pointer (some ⟨x6, 0, none⟩), junk, .pointer (some ⟨x8, 0, none⟩), .int .i64 x9, junk, junk, junk, junk, junk, junk, junk, junk, junk, junk, junk, junk, junk, junk, junk, junk, junk, junk, junk, junk, junk, junk, junk, junk, junk, junk, junk, junk, junk, junk, junk, junk, junk, junk, junk, junk, junk, junk, .int .i64 x48, .int .i64 x49, junk, junk, .int .i64 x52, .int .i64 x53, junk, junk, junk, junk, junk, junk, junk, junk, junk, junk, junk, junk, junk, junk, junk, junk, junk, junk, junk, junk, junk, junk]
theorem XP11_42 : ∃ P : Rec → Int → Nat → Nat → Nat → Int → Int → Int → Int → Int → AMem → Res, P = fun (L : Rec) (x1 : Int) (x3 : Nat) (x6 : Nat) (x8 : Nat) (x9 : Int) (x48 : Int) (x49 : Int) (x52 : Int) (x53 : Int) (M : AMem) => code L c11_42 (k11_42 L) (s11_42 x1 x3 x6 x8 x9 x48 x49 x52 x53 M) M := ⟨_, rfl⟩
noncomputable def P11_42 : Rec → Int → Nat → Nat → Nat → Int → Int → Int → Int → Int → AMem → Res := Classical.choose XP11_42
noncomputable def k11_43 (L : Rec) : KT := postK zl24 (loopK L b11_16 (blockK 0 (seqK (code L (.clear zl25 c11_44) (retK [.cell true [.int .i64, .int .i64, .slice] 6, .tmp 7])) (retK [.cell true [.int .i64, .int .i64, .slice] 6, .tmp 7]))))
def s11_43 (x1 : Int) (x3 : Nat) (x6 : Nat) (x8 : Nat) (x48 : Int) (x49 : Int) (M : AMem) : List Value := [junk, .int .i64 x1, junk, .pointer (some ⟨x3, 0, none⟩), junk, junk, .pointer (some ⟨x6, 0, none⟩), junk, .pointer (some ⟨x8, 0, none⟩), junk, junk, junk, junk, junk, junk, junk, junk, junk, junk, junk, junk, junk, junk, junk, junk, junk, junk, junk, junk, junk, junk, junk, junk, junk, junk, junk, junk, junk, junk, junk, junk, junk, junk, junk, junk, junk, junk, junk, .int .i64 x48, .int .i64 x49, junk, junk, junk, junk, junk, junk, junk, junk, junk, junk, junk, junk, junk, junk, junk, junk, junk, junk, junk, junk, junk, junk, junk, junk, junk, junk]
theorem XP11_43 : ∃ P : Rec → Int → Nat → Nat → Nat → Int → Int → AMem → Res, P = fun (L : Rec) (x1 : Int) (x3 : Nat) (x6 : Nat) (x8 : Nat) (x48 : Int) (x49 : Int) (M : AMem) => code L c11_43 (k11_43 L) (s11_43 x1 x3 x6 x8 x48 x49 M) M := ⟨_, rfl⟩
noncomputable def P11_43 : Rec → Int → Nat → Nat → Nat → Int → Int → AMem → Res := Classical.choose XP11_43
theorem QP11_16_eq (L : Rec) (b11_16 b11_30 c11_43 c11_44 : ACode) (hb : ∀ K t A, L.loop b11_16 K t A = code L (.post (.seq (.ops o11_18) (.seq (.cond (.tmp 50) (.skip) (.exit 0)) (.seq (.block 1 (.seq (.ops o11_26) (.seq (.ops o11_28) (.block 2 (.clear zl23 (.loop b11_30)))))) (.clear zl24 c11_43)))) zl24) (loopK L b11_16 K) t A) (P11_16 : Rec → Int → Nat → Nat → Nat → Int → Int → AMem → Res) (hP11_16 : P11_16 = fun (L : Rec) (x1 : Int) (x3 : Nat) (x6 : Nat) (x8 : Nat) (x48 : Int) (x49 : Int) (M : AMem) => L.loop b11_16 (blockK 0 (seqK (code L (.clear zl25 c11_44) (retK [.cell true [.int .i64, .int .i64, .slice] 6, .tmp 7])) (retK [.cell true [.int .i64, .int .i64, .slice] 6, .tmp 7]))) (s11_16 x1 x3 x6 x8 x48 x49 M) M) (P11_30 : Rec → Int → Nat → Nat → Nat → Int → Int → Int → Int → Int → AMem → Res) (hP11_30 : P11_30 = fun (L : Rec) (x1 : Int) (x3 : Nat) (x6 : Nat) (x8 : Nat) (x9 : Int) (x48 : Int) (x49 : Int) (x52 : Int) (x53 : Int) (M : AMem) => L.loop b11_30 (blockK 2 (blockK 1 (seqK (code L (.clear zl24 c11_43) (postK zl24 (loopK L b11_16 (blockK 0 (seqK (code L (.clear zl25 c11_44) (retK [.cell true [.int .i64, .int .i64, .slice] 6, .tmp 7])) (retK [.cell true [.int .i64, .int .i64, .slice] 6, .tmp 7])))))) (postK zl24 (loopK L b11_16 (blockK 0 (seqK (code L (.clear zl25 c11_44) (retK [.cell true [.int .i64, .int .i64, .slice] 6, .tmp 7])) (retK [.cell true [.int .i64, .int .i64, .slice] 6, .tmp 7])))))))) (s11_30 x1 x3 x6 x8 x9 x48 x49 x52 x53 M) M) (P11_44 : Rec → Nat → Nat → AMem → Res) (hP11_44 : P11_44 = fun (L : Rec) (x6 : Nat) (x8 : Nat) (M : AMem) => code L c11_44 (retK [.cell true [.int .i64, .int .i64, .slice] 6, .tmp 7]) (s11_44 x6 x8 M) M) (x1 : Int) (x3 : Nat) (x6 : Nat) (x8 : Nat) (x48 : Int) (x49 : Int) (M : AMem) : P11_16 L x1 x3 x6 x8 x48 x49 M =
  (if (decide (x49 < x48)) = true
    then P11_30 L x1 x3 x6 x8 x49 x48 x49 x1 0 M
    else P11_44 L x6 x8 M) := by
  subst hP11_16; subst hP11_30; subst hP11_44; exact (hb (blockK 0 (seqK (code L (.clear zl25 c11_44) (retK [.cell true [.int .i64, .int .i64, .slice] 6, .tmp 7])) (retK [.cell true [.int .i64, .int .i64, .slice] 6, .tmp 7]))) (s11_16 x1 x3 x6 x8 x48 x49 M) M).trans (by kernel_rfl)
theorem P11_16_eq (L : Rec) (hL : ∀ b K t A, L.loop b K t A = code L b (loopK L b K) t A) (x1 : Int) (x3 : Nat) (x6 : Nat) (x8 : Nat) (x48 : Int) (x49 : Int) (M : AMem) : P11_16 L x1 x3 x6 x8 x48 x49 M =
  (if (decide (x49 < x48)) = true
    then P11_30 L x1 x3 x6 x8 x49 x48 x49 x1 0 M
    else P11_44 L x6 x8 M) := QP11_16_eq L b11_16 b11_30 c11_43 c11_44 (hL b11_16) P11_16 (Classical.choose_spec XP11_16) P11_30 (Classical.choose_spec XP11_30) P11_44 (Classical.choose_spec XP11_44) x1 x3 x6 x8 x48 x49 M
theorem QP11_30_eq (L : Rec) (b11_16 b11_30 c11_42 c11_43 c11_44 : ACode) (hb : ∀ K t A, L.loop b11_30 K t A = code L (.post (.seq (.ops o11_32) (.seq (.cond (.tmp 54) (.skip) (.exit 2)) (.seq (.block 3 (.seq (.ops o11_40) (.draw [] 0 o11_41 [(1, 14)]))) (.clear zl23 c11_42)))) zl23) (loopK L b11_30 K) t A) (P11_30 : Rec → Int → Nat → Nat → Nat → Int → Int → Int → Int → Int → AMem → Res) (hP11_30 : P11_30 = fun (L : Rec) (x1 : Int) (x3 : Nat) (x6 : Nat) (x8 : Nat) (x9 : Int) (x48 : Int) (x49 : Int) (x52 : Int) (x53 : Int) (M : AMem) => L.loop b11_30 (blockK 2 (blockK 1 (seqK (code L (.clear zl24 c11_43) (postK zl24 (loopK L b11_16 (blockK 0 (seqK (code L (.clear zl25 c11_44) (retK [.cell true [.int .i64, .int .i64, .slice] 6, .tmp 7])) (retK [.cell true [.int .i64, .int .i64, .slice] 6, .tmp 7])))))) (postK zl24 (loopK L b11_16 (blockK 0 (seqK (code L (.clear zl25 c11_44) (retK [.cell true [.int .i64, .int .i64, .slice] 6, .tmp 7])) (retK [.cell true [.int .i64, .int .i64, .slice] 6, .tmp 7])))))))) (s11_30 x1 x3 x6 x8 x9 x48 x49 x52 x53 M) M) (P11_42 : Rec → Int → Nat → Nat → Nat → Int → Int → Int → Int → Int → AMem → Res) (hP11_42 : P11_42 = fun (L : Rec) (x1 : Int) (x3 : Nat) (x6 : Nat) (x8 : Nat) (x9 : Int) (x48 : Int) (x49 : Int) (x52 : Int) (x53 : Int) (M : AMem) => code L c11_42 (postK zl23 (loopK L b11_30 (blockK 2 (blockK 1 (seqK (code L (.clear zl24 c11_43) (postK zl24 (loopK L b11_16 (blockK 0 (seqK (code L (.clear zl25 c11_44) (retK [.cell true [.int .i64, .int .i64, .slice] 6, .tmp 7])) (retK [.cell true [.int .i64, .int .i64, .slice] 6, .tmp 7])))))) (postK zl24 (loopK L b11_16 (blockK 0 (seqK (code L (.clear zl25 c11_44) (retK [.cell true [.int .i64, .int .i64, .slice] 6, .tmp 7])) (retK [.cell true [.int .i64, .int .i64, .slice] 6, .tmp 7])))))))))) (s11_42 x1 x3 x6 x8 x9 x48 x49 x52 x53 M) M) (P11_43 : Rec → Int → Nat → Nat → Nat → Int → Int → AMem → Res) (hP11_43 : P11_43 = fun (L : Rec) (x1 : Int) (x3 : Nat) (x6 : Nat) (x8 : Nat) (x48 : Int) (x49 : Int) (M : AMem) => code L c11_43 (postK zl24 (loopK L b11_16 (blockK 0 (seqK (code L (.clear zl25 c11_44) (retK [.cell true [.int .i64, .int .i64, .slice] 6, .tmp 7])) (retK [.cell true [.int .i64, .int .i64, .slice] 6, .tmp 7]))))) (s11_43 x1 x3 x6 x8 x48 x49 M) M) (x1 : Int) (x3 : Nat) (x6 : Nat) (x8 : Nat) (x9 : Int) (x48 : Int) (x49 : Int) (x52 : Int) (x53 : Int) (M : AMem) : P11_30 L x1 x3 x6 x8 x9 x48 x49 x52 x53 M =
  (if (decide (x53 < x52)) = true
    then (Option.bind (sliceOf? (AMem.ld M x8 2)) fun s_1 =>
      (Option.bind (sliceOf? (AMem.ld M x3 2)) fun s_2 =>
      (Option.bind (intOf? .i64 (AMem.ld M x3 0)) fun x_3 =>
      (match s_2.1 with
      | some a_4 => (if (0 : Int) ≤ (IntKind.wrap .i64 ((IntKind.wrap .i64 ((IntKind.wrap .i64 (Int.tdiv x9 2)) * x_3)) + (IntKind.wrap .i64 (Int.tdiv x53 2)))) ∧ (IntKind.wrap .i64 ((IntKind.wrap .i64 ((IntKind.wrap .i64 (Int.tdiv x9 2)) * x_3)) + (IntKind.wrap .i64 (Int.tdiv x53 2)))) < (Int.ofNat s_2.2.1)
        then (Option.bind (intOf? .i64 (AMem.ld M a_4.block (a_4.off + ((Int.toNat (IntKind.wrap .i64 ((IntKind.wrap .i64 ((IntKind.wrap .i64 (Int.tdiv x9 2)) * x_3)) + (IntKind.wrap .i64 (Int.tdiv x53 2))))) * 3)))) fun x_5 =>
          (Option.bind (intOf? .i64 (AMem.ld M a_4.block ((a_4.off + ((Int.toNat (IntKind.wrap .i64 ((IntKind.wrap .i64 ((IntKind.wrap .i64 (Int.tdiv x9 2)) * x_3)) + (IntKind.wrap .i64 (Int.tdiv x53 2))))) * 3)) + 1))) fun x_6 =>
          (Option.bind (intOf? .i64 (AMem.ld M a_4.block ((a_4.off + ((Int.toNat (IntKind.wrap .i64 ((IntKind.wrap .i64 ((IntKind.wrap .i64 (Int.tdiv x9 2)) * x_3)) + (IntKind.wrap .i64 (Int.tdiv x53 2))))) * 3)) + 2))) fun x_7 =>
          (Option.bind (rowOf (M ++ [AObj.cells [.int .i64 x_5, .int .i64 x_6, .int .i64 x_7] ⟨false, 0⟩]) 3 (.slice (some ⟨(List.length M), 0, none⟩) 1 3)) fun row_8 =>
          (appendK 3 24 s_1.1 s_1.2.1 s_1.2.2 1 row_8 (M ++ [AObj.cells [.int .i64 x_5, .int .i64 x_6, .int .i64 x_7] ⟨false, 0⟩]) fun p_9 n_10 c_11 M_12 =>
          (Option.bind (AMem.wr M_12 x8 2 [.slice p_9 n_10 c_11]) fun M_13 =>
          (if chkOk [(1, 14)] [(1, x8)] [(14, (M, (M ++ [AObj.cells [.int .i64 x_5, .int .i64 x_6, .int .i64 x_7] ⟨false, 0⟩])))] = true
          then P11_42 L x1 x3 x6 x8 x9 x48 x49 x52 x53 M_13
          else none)))))))
        else none)
      | none => none))))
    else P11_43 L x1 x3 x6 x8 x48 x49 M) := by
  subst hP11_30; subst hP11_42; subst hP11_43; exact (hb (blockK 2 (blockK 1 (seqK (code L (.clear zl24 c11_43) (postK zl24 (loopK L b11_16 (blockK 0 (seqK (code L (.clear zl25 c11_44) (retK [.cell true [.int .i64, .int .i64, .slice] 6, .tmp 7])) (retK [.cell true [.int .i64, .int .i64, .slice] 6, .tmp 7])))))) (postK zl24 (loopK L b11_16 (blockK 0 (seqK (code L (.clear zl25 c11_44) (retK [.cell true [.int .i64, .int .i64, .slice] 6, .tmp 7])) (retK [.cell true [.int .i64, .int .i64, .slice] 6, .tmp 7])))))))) (s11_30 x1 x3 x6 x8 x9 x48 x49 x52 x53 M) M).trans (by kernel_rfl)
theorem P11_30_eq (L : Rec) (hL : ∀ b K t A, L.loop b K t A = code L b (loopK L b K) t A) (x1 : Int) (x3 : Nat) (x6 : Nat) (x8 : Nat) (x9 : Int) (x48 : Int) (x49 : Int) (x52 : Int) (x53 : Int) (M : AMem) : P11_30 L x1 x3 x6 x8 x9 x48 x49 x52 x53 M =
  (if (decide (x53 < x52)) = true
    then (Option.bind (sliceOf? (AMem.ld M x8 2)) fun s_1 =>
      (Option.bind (sliceOf? (AMem.ld M x3 2)) fun s_2 =>
      (Option.bind (intOf? .i64 (AMem.ld M x3 0)) fun x_3 =>
      (match s_2.1 with
      | some a_4 => (if (0 : Int) ≤ (IntKind.wrap .i64 ((IntKind.wrap .i64 ((IntKind.wrap .i64 (Int.tdiv x9 2)) * x_3)) + (IntKind.wrap .i64 (Int.tdiv x53 2)))) ∧ (IntKind.wrap .i64 ((IntKind.wrap .i64 ((IntKind.wrap .i64 (Int.tdiv x9 2)) * x_3)) + (IntKind.wrap .i64 (Int.tdiv x53 2)))) < (Int.ofNat s_2.2.1)
        then (Option.bind (intOf? .i64 (AMem.ld M a_4.block (a_4.off + ((Int.toNat (IntKind.wrap .i64 ((IntKind.wrap .i64 ((IntKind.wrap .i64 (Int.tdiv x9 2)) * x_3)) + (IntKind.wrap .i64 (Int.tdiv x53 2))))) * 3)))) fun x_5 =>
          (Option.bind (intOf? .i64 (AMem.ld M a_4.block ((a_4.off + ((Int.toNat (IntKind.wrap .i64 ((IntKind.wrap .i64 ((IntKind.wrap .i64 (Int.tdiv x9 2)) * x_3)) + (IntKind.wrap .i64 (Int.tdiv x53 2))))) * 3)) + 1))) fun x_6 =>
          (Option.bind (intOf? .i64 (AMem.ld M a_4.block ((a_4.off + ((Int.toNat (IntKind.wrap .i64 ((IntKind.wrap .i64 ((IntKind.wrap .i64 (Int.tdiv x9 2)) * x_3)) + (IntKind.wrap .i64 (Int.tdiv x53 2))))) * 3)) + 2))) fun x_7 =>
          (Option.bind (rowOf (M ++ [AObj.cells [.int .i64 x_5, .int .i64 x_6, .int .i64 x_7] ⟨false, 0⟩]) 3 (.slice (some ⟨(List.length M), 0, none⟩) 1 3)) fun row_8 =>
          (appendK 3 24 s_1.1 s_1.2.1 s_1.2.2 1 row_8 (M ++ [AObj.cells [.int .i64 x_5, .int .i64 x_6, .int .i64 x_7] ⟨false, 0⟩]) fun p_9 n_10 c_11 M_12 =>
          (Option.bind (AMem.wr M_12 x8 2 [.slice p_9 n_10 c_11]) fun M_13 =>
          (if chkOk [(1, 14)] [(1, x8)] [(14, (M, (M ++ [AObj.cells [.int .i64 x_5, .int .i64 x_6, .int .i64 x_7] ⟨false, 0⟩])))] = true
          then P11_42 L x1 x3 x6 x8 x9 x48 x49 x52 x53 M_13
          else none)))))))
        else none)
      | none => none))))
    else P11_43 L x1 x3 x6 x8 x48 x49 M) := QP11_30_eq L b11_16 b11_30 c11_42 c11_43 c11_44 (hL b11_30) P11_30 (Classical.choose_spec XP11_30) P11_42 (Classical.choose_spec XP11_42) P11_43 (Classical.choose_spec XP11_43) x1 x3 x6 x8 x9 x48 x49 x52 x53 M
theorem QP11_44_eq (L : Rec) (P11_44 : Rec → Nat → Nat → AMem → Res) (hP11_44 : P11_44 = fun (L : Rec) (x6 : Nat) (x8 : Nat) (M : AMem) => code L (.seq (.ops o11_45) (.ret)) (retK [.cell true [.int .i64, .int .i64, .slice] 6, .tmp 7]) (s11_44 x6 x8 M) M) (x6 : Nat) (x8 : Nat) (M : AMem) : P11_44 L x6 x8 M =
  (Option.bind (intOf? .i64 (AMem.ld M x8 0)) fun x_1 =>
    (Option.bind (intOf? .i64 (AMem.ld M x8 1)) fun x_2 =>
    (Option.bind (sliceOf? (AMem.ld M x8 2)) fun s_3 =>
    (Option.bind (AMem.wr M x6 0 [.int .i64 x_1, .int .i64 x_2, .slice s_3.1 s_3.2.1 s_3.2.2]) fun M_4 =>
    (Option.bind (intOf? .i64 (AMem.ld M_4 x6 0)) fun x_5 =>
    (Option.bind (intOf? .i64 (AMem.ld M_4 x6 1)) fun x_6 =>
    (Option.bind (sliceOf? (AMem.ld M_4 x6 2)) fun s_7 =>
    some (.tuple #[.agg #[.int .i64 x_5, .int .i64 x_6, .slice s_7.1 s_7.2.1 s_7.2.2], .bool true], M_4)))))))) := by
  subst hP11_44; kernel_rfl
theorem P11_44_eq (L : Rec) (x6 : Nat) (x8 : Nat) (M : AMem) : P11_44 L x6 x8 M =
  (Option.bind (intOf? .i64 (AMem.ld M x8 0)) fun x_1 =>
    (Option.bind (intOf? .i64 (AMem.ld M x8 1)) fun x_2 =>
    (Option.bind (sliceOf? (AMem.ld M x8 2)) fun s_3 =>
    (Option.bind (AMem.wr M x6 0 [.int .i64 x_1, .int .i64 x_2, .slice s_3.1 s_3.2.1 s_3.2.2]) fun M_4 =>
    (Option.bind (intOf? .i64 (AMem.ld M_4 x6 0)) fun x_5 =>
    (Option.bind (intOf? .i64 (AMem.ld M_4 x6 1)) fun x_6 =>
    (Option.bind (sliceOf? (AMem.ld M_4 x6 2)) fun s_7 =>
    some (.tuple #[.agg #[.int .i64 x_5, .int .i64 x_6, .slice s_7.1 s_7.2.1 s_7.2.2], .bool true], M_4)))))))) := QP11_44_eq L P11_44 (Classical.choose_spec XP11_44) x6 x8 M
theorem QP11_42_eq (L : Rec) (b11_16 b11_30 c11_43 c11_44 : ACode) (P11_30 : Rec → Int → Nat → Nat → Nat → Int → Int → Int → Int → Int → AMem → Res) (hP11_30 : P11_30 = fun (L : Rec) (x1 : Int) (x3 : Nat) (x6 : Nat) (x8 : Nat) (x9 : Int) (x48 : Int) (x49 : Int) (x52 : Int) (x53 : Int) (M : AMem) => L.loop b11_30 (blockK 2 (blockK 1 (seqK (code L (.clear zl24 c11_43) (postK zl24 (loopK L b11_16 (blockK 0 (seqK (code L (.clear zl25 c11_44) (retK [.cell true [.int .i64, .int .i64, .slice] 6, .tmp 7])) (retK [.cell true [.int .i64, .int .i64, .slice] 6, .tmp 7])))))) (postK zl24 (loopK L b11_16 (blockK 0 (seqK (code L (.clear zl25 c11_44) (retK [.cell true [.int .i64, .int .i64, .slice] 6, .tmp 7])) (retK [.cell true [.int .i64, .int .i64, .slice] 6, .tmp 7])))))))) (s11_30 x1 x3 x6 x8 x9 x48 x49 x52 x53 M) M) (P11_42 : Rec → Int → Nat → Nat → Nat → Int → Int → Int → Int → Int → AMem → Res) (hP11_42 : P11_42 = fun (L : Rec) (x1 : Int) (x3 : Nat) (x6 : Nat) (x8 : Nat) (x9 : Int) (x48 : Int) (x49 : Int) (x52 : Int) (x53 : Int) (M : AMem) => code L (.ops o11_42) (postK zl23 (loopK L b11_30 (blockK 2 (blockK 1 (seqK (code L (.clear zl24 c11_43) (postK zl24 (loopK L b11_16 (blockK 0 (seqK (code L (.clear zl25 c11_44) (retK [.cell true [.int .i64, .int .i64, .slice] 6, .tmp 7])) (retK [.cell true [.int .i64, .int .i64, .slice] 6, .tmp 7])))))) (postK zl24 (loopK L b11_16 (blockK 0 (seqK (code L (.clear zl25 c11_44) (retK [.cell true [.int .i64, .int .i64, .slice] 6, .tmp 7])) (retK [.cell true [.int .i64, .int .i64, .slice] 6, .tmp 7])))))))))) (s11_42 x1 x3 x6 x8 x9 x48 x49 x52 x53 M) M) (x1 : Int) (x3 : Nat) (x6 : Nat) (x8 : Nat) (x9 : Int) (x48 : Int) (x49 : Int) (x52 : Int) (x53 : Int) (M : AMem) : P11_42 L x1 x3 x6 x8 x9 x48 x49 x52 x53 M =
  P11_30 L x1 x3 x6 x8 x9 x48 x49 x52 (IntKind.wrap .i64 (x53 + 1)) M := by
  subst hP11_30; subst hP11_42; kernel_rfl
theorem P11_42_eq (L : Rec) (x1 : Int) (x3 : Nat) (x6 : Nat) (x8 : Nat) (x9 : Int) (x48 : Int) (x49 : Int) (x52 : Int) (x53 : Int) (M : AMem) : P11_42 L x1 x3 x6 x8 x9 x48 x49 x52 x53 M =
  P11_30 L x1 x3 x6 x8 x9 x48 x49 x52 (IntKind.wrap .i64 (x53 + 1)) M := QP11_42_eq L b11_16 b11_30 c11_43 c11_44 P11_30 (Classical.choose_spec XP11_30) P11_42 (Classical.choose_spec XP11_42) x1 x3 x6 x8 x9 x48 x49 x52 x53 M
theorem QP11_43_eq (L : Rec) (b11_16 c11_44 : ACode) (P11_16 : Rec → Int → Nat → Nat → Nat → Int → Int → AMem → Res) (hP11_16 : P11_16 = fun (L : Rec) (x1 : Int) (x3 : Nat) (x6 : Nat) (x8 : Nat) (x48 : Int) (x49 : Int) (M : AMem) => L.loop b11_16 (blockK 0 (seqK (code L (.clear zl25 c11_44) (retK [.cell true [.int .i64, .int .i64, .slice] 6, .tmp 7])) (retK [.cell true [.int .i64, .int .i64, .slice] 6, .tmp 7]))) (s11_16 x1 x3 x6 x8 x48 x49 M) M) (P11_43 : Rec → Int → Nat → Nat → Nat → Int → Int → AMem → Res) (hP11_43 : P11_43 = fun (L : Rec) (x1 : Int) (x3 : Nat) (x6 : Nat) (x8 : Nat) (x48 : Int) (x49 : Int) (M : AMem) => code L (.ops o11_43) (postK zl24 (loopK L b11_16 (blockK 0 (seqK (code L (.clear zl25 c11_44) (retK [.cell true [.int .i64, .int .i64, .slice] 6, .tmp 7])) (retK [.cell true [.int .i64, .int .i64, .slice] 6, .tmp 7]))))) (s11_43 x1 x3 x6 x8 x48 x49 M) M) (x1 : Int) (x3 : Nat) (x6 : Nat) (x8 : Nat) (x48 : Int) (x49 : Int) (M : AMem) : P11_43 L x1 x3 x6 x8 x48 x49 M =
  P11_16 L x1 x3 x6 x8 x48 (IntKind.wrap .i64 (x49 + 1)) M := by
  subst hP11_16; subst hP11_43; kernel_rfl
theorem P11_43_eq (L : Rec) (x1 : Int) (x3 : Nat) (x6 : Nat) (x8 : Nat) (x48 : Int) (x49 : Int) (M : AMem) : P11_43 L x1 x3 x6 x8 x48 x49 M =
  P11_16 L x1 x3 x6 x8 x48 (IntKind.wrap .i64 (x49 + 1)) M := QP11_43_eq L b11_16 c11_44 P11_16 (Classical.choose_spec XP11_16) P11_43 (Classical.choose_spec XP11_43) x1 x3 x6 x8 x48 x49 M
theorem QE11 (L : Rec) (b11_16 c11_44 : ACode) (P11_16 : Rec → Int → Nat → Nat → Nat → Int → Int → AMem → Res) (hP11_16 : P11_16 = fun (L : Rec) (x1 : Int) (x3 : Nat) (x6 : Nat) (x8 : Nat) (x48 : Int) (x49 : Int) (M : AMem) => L.loop b11_16 (blockK 0 (seqK (code L (.clear zl25 c11_44) (retK [.cell true [.int .i64, .int .i64, .slice] 6, .tmp 7])) (retK [.cell true [.int .i64, .int .i64, .slice] 6, .tmp 7]))) (s11_16 x1 x3 x6 x8 x48 x49 M) M) (x0_0 : Int) (x0_1 : Int) (x0_2 : Option Addr) (x0_2n : Nat) (x0_2c : Nat) (x1 : Int) (x2 : Int) (M : AMem) : enterF L ⟨76, [.cell true [.int .i64, .int .i64, .slice] 6, .tmp 7], .seq (.ops o11_1) (.seq (.seq (.draw [] 0 o11_4 []) (.cond (.tmp 39) (.seq (.ops o11_7) (.ret)) (.skip))) (.seq (.ops o11_11) (.seq (.seq (.ops o11_14) (.block 0 (.clear zl24 (.loop b11_16)))) (.clear zl25 c11_44))))⟩ [.agg #[.int .i64 x0_0, .int .i64 x0_1, .slice x0_2 x0_2n x0_2c], .int .i64 x1, .int .i64 x2] M =
  (if (decide ((if x2 < x1 then x2 else x1) < 1)) = true
    then (Option.bind (AMem.wr ((M ++ [AObj.cells [.int .i64 x0_0, .int .i64 x0_1, .slice x0_2 x0_2n x0_2c] ⟨false, 0⟩]) ++ [AObj.cells [.int .i64 0, .int .i64 0, .slice none 0 0] ⟨false, 0⟩]) (List.length (M ++ [AObj.cells [.int .i64 x0_0, .int .i64 x0_1, .slice x0_2 x0_2n x0_2c] ⟨false, 0⟩])) 0 [.int .i64 0, .int .i64 0, .slice none 0 0]) fun M_1 =>
      (Option.bind (intOf? .i64 (AMem.ld M_1 (List.length (M ++ [AObj.cells [.int .i64 x0_0, .int .i64 x0_1, .slice x0_2 x0_2n x0_2c] ⟨false, 0⟩])) 0)) fun x_2 =>
      (Option.bind (intOf? .i64 (AMem.ld M_1 (List.length (M ++ [AObj.cells [.int .i64 x0_0, .int .i64 x0_1, .slice x0_2 x0_2n x0_2c] ⟨false, 0⟩])) 1)) fun x_3 =>
      (Option.bind (sliceOf? (AMem.ld M_1 (List.length (M ++ [AObj.cells [.int .i64 x0_0, .int .i64 x0_1, .slice x0_2 x0_2n x0_2c] ⟨false, 0⟩])) 2)) fun s_4 =>
      some (.tuple #[.agg #[.int .i64 x_2, .int .i64 x_3, .slice s_4.1 s_4.2.1 s_4.2.2], .bool false], M_1)))))
    else (if (decide ((if x2 > x1 then x2 else x1) > 256)) = true
      then (Option.bind (AMem.wr ((M ++ [AObj.cells [.int .i64 x0_0, .int .i64 x0_1, .slice x0_2 x0_2n x0_2c] ⟨false, 0⟩]) ++ [AObj.cells [.int .i64 0, .int .i64 0, .slice none 0 0] ⟨false, 0⟩]) (List.length (M ++ [AObj.cells [.int .i64 x0_0, .int .i64 x0_1, .slice x0_2 x0_2n x0_2c] ⟨false, 0⟩])) 0 [.int .i64 0, .int .i64 0, .slice none 0 0]) fun M_5 =>
        (Option.bind (intOf? .i64 (AMem.ld M_5 (List.length (M ++ [AObj.cells [.int .i64 x0_0, .int .i64 x0_1, .slice x0_2 x0_2n x0_2c] ⟨false, 0⟩])) 0)) fun x_6 =>
        (Option.bind (intOf? .i64 (AMem.ld M_5 (List.length (M ++ [AObj.cells [.int .i64 x0_0, .int .i64 x0_1, .slice x0_2 x0_2n x0_2c] ⟨false, 0⟩])) 1)) fun x_7 =>
        (Option.bind (sliceOf? (AMem.ld M_5 (List.length (M ++ [AObj.cells [.int .i64 x0_0, .int .i64 x0_1, .slice x0_2 x0_2n x0_2c] ⟨false, 0⟩])) 2)) fun s_8 =>
        some (.tuple #[.agg #[.int .i64 x_6, .int .i64 x_7, .slice s_8.1 s_8.2.1 s_8.2.2], .bool false], M_5)))))
      else (Option.bind (L.call 24 [.int .i64 x1] []) fun r_9 =>
        (Option.bind (intOf? .i64 (some r_9.1)) fun x_10 =>
        (Option.bind (intOf? .i64 (AMem.ld ((M ++ [AObj.cells [.int .i64 x0_0, .int .i64 x0_1, .slice x0_2 x0_2n x0_2c] ⟨false, 0⟩]) ++ [AObj.cells [.int .i64 0, .int .i64 0, .slice none 0 0] ⟨false, 0⟩]) (List.length M) 0)) fun x_11 =>
        (if (x_10 != x_11) = true
        then (Option.bind (AMem.wr ((M ++ [AObj.cells [.int .i64 x0_0, .int .i64 x0_1, .slice x0_2 x0_2n x0_2c] ⟨false, 0⟩]) ++ [AObj.cells [.int .i64 0, .int .i64 0, .slice none 0 0] ⟨false, 0⟩]) (List.length (M ++ [AObj.cells [.int .i64 x0_0, .int .i64 x0_1, .slice x0_2 x0_2n x0_2c] ⟨false, 0⟩])) 0 [.int .i64 0, .int .i64 0, .slice none 0 0]) fun M_12 =>
          (Option.bind (intOf? .i64 (AMem.ld M_12 (List.length (M ++ [AObj.cells [.int .i64 x0_0, .int .i64 x0_1, .slice x0_2 x0_2n x0_2c] ⟨false, 0⟩])) 0)) fun x_13 =>
          (Option.bind (intOf? .i64 (AMem.ld M_12 (List.length (M ++ [AObj.cells [.int .i64 x0_0, .int .i64 x0_1, .slice x0_2 x0_2n x0_2c] ⟨false, 0⟩])) 1)) fun x_14 =>
          (Option.bind (sliceOf? (AMem.ld M_12 (List.length (M ++ [AObj.cells [.int .i64 x0_0, .int .i64 x0_1, .slice x0_2 x0_2n x0_2c] ⟨false, 0⟩])) 2)) fun s_15 =>
          some (.tuple #[.agg #[.int .i64 x_13, .int .i64 x_14, .slice s_15.1 s_15.2.1 s_15.2.2], .bool false], M_12)))))
        else (Option.bind (L.call 24 [.int .i64 x2] []) fun r_16 =>
          (Option.bind (intOf? .i64 (some r_16.1)) fun x_17 =>
          (Option.bind (intOf? .i64 (AMem.ld ((M ++ [AObj.cells [.int .i64 x0_0, .int .i64 x0_1, .slice x0_2 x0_2n x0_2c] ⟨false, 0⟩]) ++ [AObj.cells [.int .i64 0, .int .i64 0, .slice none 0 0] ⟨false, 0⟩]) (List.length M) 1)) fun x_18 =>
          (if (x_17 != x_18) = true
          then (Option.bind (AMem.wr ((M ++ [AObj.cells [.int .i64 x0_0, .int .i64 x0_1, .slice x0_2 x0_2n x0_2c] ⟨false, 0⟩]) ++ [AObj.cells [.int .i64 0, .int .i64 0, .slice none 0 0] ⟨false, 0⟩]) (List.length (M ++ [AObj.cells [.int .i64 x0_0, .int .i64 x0_1, .slice x0_2 x0_2n x0_2c] ⟨false, 0⟩])) 0 [.int .i64 0, .int .i64 0, .slice none 0 0]) fun M_19 =>
            (Option.bind (intOf? .i64 (AMem.ld M_19 (List.length (M ++ [AObj.cells [.int .i64 x0_0, .int .i64 x0_1, .slice x0_2 x0_2n x0_2c] ⟨false, 0⟩])) 0)) fun x_20 =>
            (Option.bind (intOf? .i64 (AMem.ld M_19 (List.length (M ++ [AObj.cells [.int .i64 x0_0, .int .i64 x0_1, .slice x0_2 x0_2n x0_2c] ⟨false, 0⟩])) 1)) fun x_21 =>
            (Option.bind (sliceOf? (AMem.ld M_19 (List.length (M ++ [AObj.cells [.int .i64 x0_0, .int .i64 x0_1, .slice x0_2 x0_2n x0_2c] ⟨false, 0⟩])) 2)) fun s_22 =>
            some (.tuple #[.agg #[.int .i64 x_20, .int .i64 x_21, .slice s_22.1 s_22.2.1 s_22.2.2], .bool false], M_19)))))
          else (Option.bind (intOf? .i64 (AMem.ld ((M ++ [AObj.cells [.int .i64 x0_0, .int .i64 x0_1, .slice x0_2 x0_2n x0_2c] ⟨false, 0⟩]) ++ [AObj.cells [.int .i64 0, .int .i64 0, .slice none 0 0] ⟨false, 0⟩]) (List.length M) 0)) fun x_23 =>
            (Option.bind (intOf? .i64 (AMem.ld ((M ++ [AObj.cells [.int .i64 x0_0, .int .i64 x0_1, .slice x0_2 x0_2n x0_2c] ⟨false, 0⟩]) ++ [AObj.cells [.int .i64 0, .int .i64 0, .slice none 0 0] ⟨false, 0⟩]) (List.length M) 1)) fun x_24 =>
            (Option.bind (sliceOf? (AMem.ld ((M ++ [AObj.cells [.int .i64 x0_0, .int .i64 x0_1, .slice x0_2 x0_2n x0_2c] ⟨false, 0⟩]) ++ [AObj.cells [.int .i64 0, .int .i64 0, .slice none 0 0] ⟨false, 0⟩]) (List.length M) 2)) fun s_25 =>
            (Option.bind (L.call 22 [.agg #[.int .i64 x_23, .int .i64 x_24, .slice s_25.1 s_25.2.1 s_25.2.2]] ((M ++ [AObj.cells [.int .i64 x0_0, .int .i64 x0_1, .slice x0_2 x0_2n x0_2c] ⟨false, 0⟩]) ++ [AObj.cells [.int .i64 0, .int .i64 0, .slice none 0 0] ⟨false, 0⟩])) fun r_26 =>
            (Option.bind (boolOf? (some r_26.1)) fun q_27 =>
            (if (!q_27) = true
            then (Option.bind (AMem.wr r_26.2 (List.length (M ++ [AObj.cells [.int .i64 x0_0, .int .i64 x0_1, .slice x0_2 x0_2n x0_2c] ⟨false, 0⟩])) 0 [.int .i64 0, .int .i64 0, .slice none 0 0]) fun M_28 =>
              (Option.bind (intOf? .i64 (AMem.ld M_28 (List.length (M ++ [AObj.cells [.int .i64 x0_0, .int .i64 x0_1, .slice x0_2 x0_2n x0_2c] ⟨false, 0⟩])) 0)) fun x_29 =>
              (Option.bind (intOf? .i64 (AMem.ld M_28 (List.length (M ++ [AObj.cells [.int .i64 x0_0, .int .i64 x0_1, .slice x0_2 x0_2n x0_2c] ⟨false, 0⟩])) 1)) fun x_30 =>
              (Option.bind (sliceOf? (AMem.ld M_28 (List.length (M ++ [AObj.cells [.int .i64 x0_0, .int .i64 x0_1, .slice x0_2 x0_2n x0_2c] ⟨false, 0⟩])) 2)) fun s_31 =>
              some (.tuple #[.agg #[.int .i64 x_29, .int .i64 x_30, .slice s_31.1 s_31.2.1 s_31.2.2], .bool false], M_28)))))
            else (if (0 : Int) ≤ 0 ∧ 0 ≤ (IntKind.wrap .i64 (x1 * x2)) ∧ (IntKind.wrap .i64 (x1 * x2)) ≤ 140737488355328 ∧ (IntKind.wrap .i64 (x1 * x2)) * 24 ≤ 140737488355328
              then (Option.bind (AMem.wr ((r_26.2 ++ [AObj.cells [] ⟨false, 0⟩]) ++ [AObj.cells [.int .i64 0, .int .i64 0, .slice none 0 0] ⟨false, 0⟩]) (List.length (r_26.2 ++ [AObj.cells [] ⟨false, 0⟩])) 0 [.int .i64 x1, .int .i64 x2, .slice (some ⟨(List.length r_26.2), 0, none⟩) 0 3]) fun M_32 =>
                P11_16 L x1 (List.length M) (List.length (M ++ [AObj.cells [.int .i64 x0_0, .int .i64 x0_1, .slice x0_2 x0_2n x0_2c] ⟨false, 0⟩])) (List.length (r_26.2 ++ [AObj.cells [] ⟨false, 0⟩])) x2 0 M_32)
              else none))))))))))))))))) := by
  subst hP11_16; kernel_rfl
theorem E11 (L : Rec) (x0_0 : Int) (x0_1 : Int) (x0_2 : Option Addr) (x0_2n : Nat) (x0_2c : Nat) (x1 : Int) (x2 : Int) (M : AMem) : enterF L a11 [.agg #[.int .i64 x0_0, .int .i64 x0_1, .slice x0_2 x0_2n x0_2c], .int .i64 x1, .int .i64 x2] M =
  (if (decide ((if x2 < x1 then x2 else x1) < 1)) = true
    then (Option.bind (AMem.wr ((M ++ [AObj.cells [.int .i64 x0_0, .int .i64 x0_1, .slice x0_2 x0_2n x0_2c] ⟨false, 0⟩]) ++ [AObj.cells [.int .i64 0, .int .i64 0, .slice none 0 0] ⟨false, 0⟩]) (List.length (M ++ [AObj.cells [.int .i64 x0_0, .int .i64 x0_1, .slice x0_2 x0_2n x0_2c] ⟨false, 0⟩])) 0 [.int .i64 0, .int .i64 0, .slice none 0 0]) fun M_1 =>
      (Option.bind (intOf? .i64 (AMem.ld M_1 (List.length (M ++ [AObj.cells [.int .i64 x0_0, .int .i64 x0_1, .slice x0_2 x0_2n x0_2c] ⟨false, 0⟩])) 0)) fun x_2 =>
      (Option.bind (intOf? .i64 (AMem.ld M_1 (List.length (M ++ [AObj.cells [.int .i64 x0_0, .int .i64 x0_1, .slice x0_2 x0_2n x0_2c] ⟨false, 0⟩])) 1)) fun x_3 =>
      (Option.bind (sliceOf? (AMem.ld M_1 (List.length (M ++ [AObj.cells [.int .i64 x0_0, .int .i64 x0_1, .slice x0_2 x0_2n x0_2c] ⟨false, 0⟩])) 2)) fun s_4 =>
      some (.tuple #[.agg #[.int .i64 x_2, .int .i64 x_3, .slice s_4.1 s_4.2.1 s_4.2.2], .bool false], M_1)))))
    else (if (decide ((if x2 > x1 then x2 else x1) > 256)) = true
      then (Option.bind (AMem.wr ((M ++ [AObj.cells [.int .i64 x0_0, .int .i64 x0_1, .slice x0_2 x0_2n x0_2c] ⟨false, 0⟩]) ++ [AObj.cells [.int .i64 0, .int .i64 0, .slice none 0 0] ⟨false, 0⟩]) (List.length (M ++ [AObj.cells [.int .i64 x0_0, .int .i64 x0_1, .slice x0_2 x0_2n x0_2c] ⟨false, 0⟩])) 0 [.int .i64 0, .int .i64 0, .slice none 0 0]) fun M_5 =>
        (Option.bind (intOf? .i64 (AMem.ld M_5 (List.length (M ++ [AObj.cells [.int .i64 x0_0, .int .i64 x0_1, .slice x0_2 x0_2n x0_2c] ⟨false, 0⟩])) 0)) fun x_6 =>
        (Option.bind (intOf? .i64 (AMem.ld M_5 (List.length (M ++ [AObj.cells [.int .i64 x0_0, .int .i64 x0_1, .slice x0_2 x0_2n x0_2c] ⟨false, 0⟩])) 1)) fun x_7 =>
        (Option.bind (sliceOf? (AMem.ld M_5 (List.length (M ++ [AObj.cells [.int .i64 x0_0, .int .i64 x0_1, .slice x0_2 x0_2n x0_2c] ⟨false, 0⟩])) 2)) fun s_8 =>
        some (.tuple #[.agg #[.int .i64 x_6, .int .i64 x_7, .slice s_8.1 s_8.2.1 s_8.2.2], .bool false], M_5)))))
      else (Option.bind (L.call 24 [.int .i64 x1] []) fun r_9 =>
        (Option.bind (intOf? .i64 (some r_9.1)) fun x_10 =>
        (Option.bind (intOf? .i64 (AMem.ld ((M ++ [AObj.cells [.int .i64 x0_0, .int .i64 x0_1, .slice x0_2 x0_2n x0_2c] ⟨false, 0⟩]) ++ [AObj.cells [.int .i64 0, .int .i64 0, .slice none 0 0] ⟨false, 0⟩]) (List.length M) 0)) fun x_11 =>
        (if (x_10 != x_11) = true
        then (Option.bind (AMem.wr ((M ++ [AObj.cells [.int .i64 x0_0, .int .i64 x0_1, .slice x0_2 x0_2n x0_2c] ⟨false, 0⟩]) ++ [AObj.cells [.int .i64 0, .int .i64 0, .slice none 0 0] ⟨false, 0⟩]) (List.length (M ++ [AObj.cells [.int .i64 x0_0, .int .i64 x0_1, .slice x0_2 x0_2n x0_2c] ⟨false, 0⟩])) 0 [.int .i64 0, .int .i64 0, .slice none 0 0]) fun M_12 =>
          (Option.bind (intOf? .i64 (AMem.ld M_12 (List.length (M ++ [AObj.cells [.int .i64 x0_0, .int .i64 x0_1, .slice x0_2 x0_2n x0_2c] ⟨false, 0⟩])) 0)) fun x_13 =>
          (Option.bind (intOf? .i64 (AMem.ld M_12 (List.length (M ++ [AObj.cells [.int .i64 x0_0, .int .i64 x0_1, .slice x0_2 x0_2n x0_2c] ⟨false, 0⟩])) 1)) fun x_14 =>
          (Option.bind (sliceOf? (AMem.ld M_12 (List.length (M ++ [AObj.cells [.int .i64 x0_0, .int .i64 x0_1, .slice x0_2 x0_2n x0_2c] ⟨false, 0⟩])) 2)) fun s_15 =>
          some (.tuple #[.agg #[.int .i64 x_13, .int .i64 x_14, .slice s_15.1 s_15.2.1 s_15.2.2], .bool false], M_12)))))
        else (Option.bind (L.call 24 [.int .i64 x2] []) fun r_16 =>
          (Option.bind (intOf? .i64 (some r_16.1)) fun x_17 =>
          (Option.bind (intOf? .i64 (AMem.ld ((M ++ [AObj.cells [.int .i64 x0_0, .int .i64 x0_1, .slice x0_2 x0_2n x0_2c] ⟨false, 0⟩]) ++ [AObj.cells [.int .i64 0, .int .i64 0, .slice none 0 0] ⟨false, 0⟩]) (List.length M) 1)) fun x_18 =>
          (if (x_17 != x_18) = true
          then (Option.bind (AMem.wr ((M ++ [AObj.cells [.int .i64 x0_0, .int .i64 x0_1, .slice x0_2 x0_2n x0_2c] ⟨false, 0⟩]) ++ [AObj.cells [.int .i64 0, .int .i64 0, .slice none 0 0] ⟨false, 0⟩]) (List.length (M ++ [AObj.cells [.int .i64 x0_0, .int .i64 x0_1, .slice x0_2 x0_2n x0_2c] ⟨false, 0⟩])) 0 [.int .i64 0, .int .i64 0, .slice none 0 0]) fun M_19 =>
            (Option.bind (intOf? .i64 (AMem.ld M_19 (List.length (M ++ [AObj.cells [.int .i64 x0_0, .int .i64 x0_1, .slice x0_2 x0_2n x0_2c] ⟨false, 0⟩])) 0)) fun x_20 =>
            (Option.bind (intOf? .i64 (AMem.ld M_19 (List.length (M ++ [AObj.cells [.int .i64 x0_0, .int .i64 x0_1, .slice x0_2 x0_2n x0_2c] ⟨false, 0⟩])) 1)) fun x_21 =>
            (Option.bind (sliceOf? (AMem.ld M_19 (List.length (M ++ [AObj.cells [.int .i64 x0_0, .int .i64 x0_1, .slice x0_2 x0_2n x0_2c] ⟨false, 0⟩])) 2)) fun s_22 =>
            some (.tuple #[.agg #[.int .i64 x_20, .int .i64 x_21, .slice s_22.1 s_22.2.1 s_22.2.2], .bool false], M_19)))))
          else (Option.bind (intOf? .i64 (AMem.ld ((M ++ [AObj.cells [.int .i64 x0_0, .int .i64 x0_1, .slice x0_2 x0_2n x0_2c] ⟨false, 0⟩]) ++ [AObj.cells [.int .i64 0, .int .i64 0, .slice none 0 0] ⟨false, 0⟩]) (List.length M) 0)) fun x_23 =>
            (Option.bind (intOf? .i64 (AMem.ld ((M ++ [AObj.cells [.int .i64 x0_0, .int .i64 x0_1, .slice x0_2 x0_2n x0_2c] ⟨false, 0⟩]) ++ [AObj.cells [.int .i64 0, .int .i64 0, .slice none 0 0] ⟨false, 0⟩]) (List.length M) 1)) fun x_24 =>
            (Option.bind (sliceOf? (AMem.ld ((M ++ [AObj.cells [.int .i64 x0_0, .int .i64 x0_1, .slice x0_2 x0_2n x0_2c] ⟨false, 0⟩]) ++ [AObj.cells [.int .i64 0, .int .i64 0, .slice none 0 0] ⟨false, 0⟩]) (List.length M) 2)) fun s_25 =>
            (Option.bind (L.call 22 [.agg #[.int .i64 x_23, .int .i64 x_24, .slice s_25.1 s_25.2.1 s_25.2.2]] ((M ++ [AObj.cells [.int .i64 x0_0, .int .i64 x0_1, .slice x0_2 x0_2n x0_2c] ⟨false, 0⟩]) ++ [AObj.cells [.int .i64 0, .int .i64 0, .slice none 0 0] ⟨false, 0⟩])) fun r_26 =>
            (Option.bind (boolOf? (some r_26.1)) fun q_27 =>
            (if (!q_27) = true
            then (Option.bind (AMem.wr r_26.2 (List.length (M ++ [AObj.cells [.int .i64 x0_0, .int .i64 x0_1, .slice x0_2 x0_2n x0_2c] ⟨false, 0⟩])) 0 [.int .i64 0, .int .i64 0, .slice none 0 0]) fun M_28 =>
              (Option.bind (intOf? .i64 (AMem.ld M_28 (List.length (M ++ [AObj.cells [.int .i64 x0_0, .int .i64 x0_1, .slice x0_2 x0_2n x0_2c] ⟨false, 0⟩])) 0)) fun x_29 =>
              (Option.bind (intOf? .i64 (AMem.ld M_28 (List.length (M ++ [AObj.cells [.int .i64 x0_0, .int .i64 x0_1, .slice x0_2 x0_2n x0_2c] ⟨false, 0⟩])) 1)) fun x_30 =>
              (Option.bind (sliceOf? (AMem.ld M_28 (List.length (M ++ [AObj.cells [.int .i64 x0_0, .int .i64 x0_1, .slice x0_2 x0_2n x0_2c] ⟨false, 0⟩])) 2)) fun s_31 =>
              some (.tuple #[.agg #[.int .i64 x_29, .int .i64 x_30, .slice s_31.1 s_31.2.1 s_31.2.2], .bool false], M_28)))))
            else (if (0 : Int) ≤ 0 ∧ 0 ≤ (IntKind.wrap .i64 (x1 * x2)) ∧ (IntKind.wrap .i64 (x1 * x2)) ≤ 140737488355328 ∧ (IntKind.wrap .i64 (x1 * x2)) * 24 ≤ 140737488355328
              then (Option.bind (AMem.wr ((r_26.2 ++ [AObj.cells [] ⟨false, 0⟩]) ++ [AObj.cells [.int .i64 0, .int .i64 0, .slice none 0 0] ⟨false, 0⟩]) (List.length (r_26.2 ++ [AObj.cells [] ⟨false, 0⟩])) 0 [.int .i64 x1, .int .i64 x2, .slice (some ⟨(List.length r_26.2), 0, none⟩) 0 3]) fun M_32 =>
                P11_16 L x1 (List.length M) (List.length (M ++ [AObj.cells [.int .i64 x0_0, .int .i64 x0_1, .slice x0_2 x0_2n x0_2c] ⟨false, 0⟩])) (List.length (r_26.2 ++ [AObj.cells [] ⟨false, 0⟩])) x2 0 M_32)
              else none))))))))))))))))) := QE11 L b11_16 c11_44 P11_16 (Classical.choose_spec XP11_16) x0_0 x0_1 x0_2 x0_2n x0_2c x1 x2 M
/-! #### slices.Collect[picture.Picture] -/
theorem E25 (L : Rec) (x0 : Value) (M : AMem) : enterF L a25 [x0] M =
  (Option.bind (L.call 33 [.slice none 0 0, x0] M) fun r_1 =>
    (Option.bind (sliceOf? (some r_1.1)) fun s_2 =>
    some (.slice s_2.1 s_2.2.1 s_2.2.2, r_1.2))) := by kernel_rfl
/-! #### slices.AppendSeq[[]picture.Picture,picture.Picture] -/
noncomputable def k33_10 (L : Rec) : KT := retK [.tmp 4]
def s33_10 (x2 : Nat) (M : AMem) : List Value := [junk, junk, .pointer (some ⟨x2, 0, none⟩), junk, junk, junk, junk, junk, junk, junk, junk, junk, junk]
theorem XP33_10 : ∃ P : Rec → Nat → AMem → Res, P = fun (L : Rec) (x2 : Nat) (M : AMem) => code L c33_10 (k33_10 L) (s33_10 x2 M) M := ⟨_, rfl⟩
noncomputable def P33_10 : Rec → Nat → AMem → Res := Classical.choose XP33_10
noncomputable def k33_6 (L : Rec) (l : Nat) : KT := roundK l
def s33_6 (l : Nat) (x2 : Nat) (x4n : Nat) (x6 : Value) (y0_0 : Int) (y0_1 : Int) (y0_2 : Option Addr) (y0_2n : Nat) (y0_2c : Nat) (z : Nat) (M : AMem) : List Value := [junk, junk, .pointer (some ⟨x2, 0, none⟩), junk, .slice none x4n 0, .pointer (some ⟨z, 0, none⟩), x6, .agg #[.int .i64 y0_0, .int .i64 y0_1, .slice y0_2 y0_2n y0_2c], junk, junk, junk, junk, junk]
def lo33_6 (s : LoopState) (pe : Option AExit) (x2 : Nat) (x4n : Nat) (x6 : Value) : ALoop := ⟨s, pe, [junk, junk, .pointer (some ⟨x2, 0, none⟩), junk, .slice none x4n 0, junk, x6, .tuple #[], junk, junk, junk, junk, junk], [7], .ops o33_7, b33_6⟩
theorem XP33_6 : ∃ P : Rec → Nat → Nat → Nat → Value → Int → Int → (Option Addr) → Nat → Nat → Nat → AMem → Res, P = fun (L : Rec) (l : Nat) (x2 : Nat) (x4n : Nat) (x6 : Value) (y0_0 : Int) (y0_1 : Int) (y0_2 : Option Addr) (y0_2n : Nat) (y0_2c : Nat) (z : Nat) (M : AMem) => code L b33_6 (k33_6 L l) (s33_6 l x2 x4n x6 y0_0 y0_1 y0_2 y0_2n y0_2c z M) M := ⟨_, rfl⟩
noncomputable def P33_6 : Rec → Nat → Nat → Nat → Value → Int → Int → (Option Addr) → Nat → Nat → Nat → AMem → Res := Classical.choose XP33_6
theorem QP33_10_eq (L : Rec) (P33_10 : Rec → Nat → AMem → Res) (hP33_10 : P33_10 = fun (L : Rec) (x2 : Nat) (M : AMem) => code L (.seq (.ops o33_11) (.ret)) (retK [.tmp 4]) (s33_10 x2 M) M) (x2 : Nat) (M : AMem) : P33_10 L x2 M =
  (Option.bind (sliceOf? (AMem.ld M x2 0)) fun s_1 =>
    some (.slice s_1.1 s_1.2.1 s_1.2.2, M)) := by
  subst hP33_10; kernel_rfl
theorem P33_10_eq (L : Rec) (x2 : Nat) (M : AMem) : P33_10 L x2 M =
  (Option.bind (sliceOf? (AMem.ld M x2 0)) fun s_1 =>
    some (.slice s_1.1 s_1.2.1 s_1.2.2, M)) := QP33_10_eq L P33_10 (Classical.choose_spec XP33_10) x2 M
theorem QP33_6_eq (L : Rec) (P33_6 : Rec → Nat → Nat → Nat → Value → Int → Int → (Option Addr) → Nat → Nat → Nat → AMem → Res) (hP33_6 : P33_6 = fun (L : Rec) (l : Nat) (x2 : Nat) (x4n : Nat) (x6 : Value) (y0_0 : Int) (y0_1 : Int) (y0_2 : Option Addr) (y0_2n : Nat) (y0_2c : Nat) (z : Nat) (M : AMem) => code L (.block 1 (.ops o33_9)) (roundK l) (s33_6 l x2 x4n x6 y0_0 y0_1 y0_2 y0_2n y0_2c z M) M) (l : Nat) (x2 : Nat) (x4n : Nat) (x6 : Value) (y0_0 : Int) (y0_1 : Int) (y0_2 : Option Addr) (y0_2n : Nat) (y0_2c : Nat) (z : Nat) (M : AMem) : P33_6 L l x2 x4n x6 y0_0 y0_1 y0_2 y0_2n y0_2c z M =
  (Option.bind (sliceOf? (AMem.ld M x2 0)) fun s_2 =>
    (Option.bind (intOf? .i64 (AMem.ld M z 0)) fun x_3 =>
    (Option.bind (intOf? .i64 (AMem.ld M z 1)) fun x_4 =>
    (Option.bind (sliceOf? (AMem.ld M z 2)) fun s_5 =>
    (Option.bind (rowOf (M ++ [AObj.cells [.int .i64 x_3, .int .i64 x_4, .slice s_5.1 s_5.2.1 s_5.2.2] ⟨false, 0⟩]) 3 (.slice (some ⟨(List.length M), 0, none⟩) 1 3)) fun row_6 =>
    (appendK 3 40 s_2.1 s_2.2.1 s_2.2.2 1 row_6 (M ++ [AObj.cells [.int .i64 x_3, .int .i64 x_4, .slice s_5.1 s_5.2.1 s_5.2.2] ⟨false, 0⟩]) fun p_7 n_8 c_9 M_10 =>
    (Option.bind (AMem.wr M_10 x2 0 [.slice p_7 n_8 c_9]) fun M_11 =>
    roundK l AExit.normal [] M_11))))))) := by
  subst hP33_6; kernel_rfl
theorem P33_6_eq (L : Rec) (l : Nat) (x2 : Nat) (x4n : Nat) (x6 : Value) (y0_0 : Int) (y0_1 : Int) (y0_2 : Option Addr) (y0_2n : Nat) (y0_2c : Nat) (z : Nat) (M : AMem) : P33_6 L l x2 x4n x6 y0_0 y0_1 y0_2 y0_2n y0_2c z M =
  (Option.bind (sliceOf? (AMem.ld M x2 0)) fun s_2 =>
    (Option.bind (intOf? .i64 (AMem.ld M z 0)) fun x_3 =>
    (Option.bind (intOf? .i64 (AMem.ld M z 1)) fun x_4 =>
    (Option.bind (sliceOf? (AMem.ld M z 2)) fun s_5 =>
    (Option.bind (rowOf (M ++ [AObj.cells [.int .i64 x_3, .int .i64 x_4, .slice s_5.1 s_5.2.1 s_5.2.2] ⟨false, 0⟩]) 3 (.slice (some ⟨(List.length M), 0, none⟩) 1 3)) fun row_6 =>
    (appendK 3 40 s_2.1 s_2.2.1 s_2.2.2 1 row_6 (M ++ [AObj.cells [.int .i64 x_3, .int .i64 x_4, .slice s_5.1 s_5.2.1 s_5.2.2] ⟨false, 0⟩]) fun p_7 n_8 c_9 M_10 =>
    (Option.bind (AMem.wr M_10 x2 0 [.slice p_7 n_8 c_9]) fun M_11 =>
    roundK l AExit.normal [] M_11))))))) := QP33_6_eq L P33_6 (Classical.choose_spec XP33_6) l x2 x4n x6 y0_0 y0_1 y0_2 y0_2n y0_2c z M
theorem R33_6 (L : Rec) (hR : ∀ l args A, L.round l args A = roundF L l args A) (l : Nat) (x2 : Nat) (x4n : Nat) (x6 : Value) (y0_0 : Int) (y0_1 : Int) (y0_2 : Option Addr) (y0_2n : Nat) (y0_2c : Nat) (M : AMem) (pe : Option AExit) (hM : M[l]? = some (.loop (lo33_6 .ready pe x2 x4n x6))) (M1 : AMem) (hw : AMem.wr (M ++ [AObj.cells [.int .i64 0, .int .i64 0, .slice none 0 0] ⟨false, 0⟩]) (List.length M) 0 [.int .i64 y0_0, .int .i64 y0_1, .slice y0_2 y0_2n y0_2c] = some M1) (hM1 : M1[l]? = some (.loop (lo33_6 .ready pe x2 x4n x6))) : L.round l [.agg #[.int .i64 y0_0, .int .i64 y0_1, .slice y0_2 y0_2n y0_2c]] M =
  P33_6 L l x2 x4n x6 y0_0 y0_1 y0_2 y0_2n y0_2c (List.length M) (M1.set l (.loop (lo33_6 .busy pe x2 x4n x6))) := by
  rw [hR, roundF_wr hM rfl rfl hw hM1 (s33_6 l x2 x4n x6 y0_0 y0_1 y0_2 y0_2n y0_2c (List.length M) M) (fun K => by kernel_rfl)]; exact (congrFun (congrFun (congrFun (congrFun (congrFun (congrFun (congrFun (congrFun (congrFun (congrFun (congrFun (congrFun (Classical.choose_spec XP33_6) L) l) x2) x4n) x6) y0_0) y0_1) y0_2) y0_2n) y0_2c) _) _).symm
theorem GE33 (L : Rec) (b33_6 c33_10 : ACode) (x0 : Option Addr) (x0n : Nat) (x0c : Nat) (x1 : Value) (M : AMem) : enterF L ⟨13, [.tmp 4], .seq (.ops o33_1) (.seq (.seq (.ops o33_4) (.block 0 (.clear [0, 1, 3, 5, 8, 9, 10, 11, 12] (.rangeFunc (.tmp 6) [7] (.ops o33_7) b33_6)))) (.clear [0, 1, 3, 4, 5, 6, 7, 8, 9, 10, 11, 12] c33_10))⟩ [.slice x0 x0n x0c, x1] M =
  (funK x1 fun g_5 f_6 c_7 =>
    (Option.bind (L.call g_5 (f_6 ++ [.func (.yield (List.length (M ++ [AObj.cells [.slice x0 x0n x0c] ⟨false, 0⟩]))) #[] #[]] ++ c_7) ((M ++ [AObj.cells [.slice x0 x0n x0c] ⟨false, 0⟩]) ++ [AObj.loop ⟨.ready, none, [junk, junk, .pointer (some ⟨(List.length M), 0, none⟩), junk, .slice none 0 0, junk, x1, .tuple #[], junk, junk, junk, junk, junk], [7], .ops o33_7, b33_6⟩])) fun r_1 =>
    rangeK (List.length (M ++ [AObj.cells [.slice x0 x0n x0c] ⟨false, 0⟩])) r_1 (fun M_3 =>
    code L c33_10 (retK [.tmp 4]) [junk, junk, .pointer (some ⟨(List.length M), 0, none⟩), junk, junk, junk, junk, junk, junk, junk, junk, junk, junk] M_3) (fun e_2 M_4 => (blockK 0 (seqK (code L (.clear [0, 1, 3, 4, 5, 6, 7, 8, 9, 10, 11, 12] c33_10) (retK [.tmp 4])) (retK [.tmp 4]))) e_2 [junk, junk, .pointer (some ⟨(List.length M), 0, none⟩), junk, .slice none 0 0, junk, x1, .tuple #[], junk, junk, junk, junk, junk] M_4))) := by kernel_rfl
theorem QE33 (L : Rec) (P33_10 : Rec → Nat → AMem → Res) (hP33_10 : P33_10 = fun (L : Rec) (x2 : Nat) (M : AMem) => code L c33_10 (k33_10 L) (s33_10 x2 M) M) (x0 : Option Addr) (x0n : Nat) (x0c : Nat) (x1 : Value) (M : AMem) : enterF L a33 [.slice x0 x0n x0c, x1] M =
  (funK x1 fun g_5 f_6 c_7 =>
    (Option.bind (L.call g_5 (f_6 ++ [.func (.yield (List.length (M ++ [AObj.cells [.slice x0 x0n x0c] ⟨false, 0⟩]))) #[] #[]] ++ c_7) ((M ++ [AObj.cells [.slice x0 x0n x0c] ⟨false, 0⟩]) ++ [AObj.loop (lo33_6 .ready none (List.length M) 0 x1)])) fun r_1 =>
    rangeK (List.length (M ++ [AObj.cells [.slice x0 x0n x0c] ⟨false, 0⟩])) r_1 (fun M_3 =>
    P33_10 L (List.length M) M_3) (fun e_2 M_4 => (blockK 0 (seqK (code L (.clear [0, 1, 3, 4, 5, 6, 7, 8, 9, 10, 11, 12] c33_10) (retK [.tmp 4])) (retK [.tmp 4]))) e_2 [junk, junk, .pointer (some ⟨(List.length M), 0, none⟩), junk, .slice none 0 0, junk, x1, .tuple #[], junk, junk, junk, junk, junk] M_4))) := by
  subst hP33_10; exact Eq.mp (by kernel_rfl) (GE33 L b33_6 c33_10 x0 x0n x0c x1 M)
theorem E33 (L : Rec) (x0 : Option Addr) (x0n : Nat) (x0c : Nat) (x1 : Value) (M : AMem) : enterF L a33 [.slice x0 x0n x0c, x1] M =
  (funK x1 fun g_5 f_6 c_7 =>
    (Option.bind (L.call g_5 (f_6 ++ [.func (.yield (List.length (M ++ [AObj.cells [.slice x0 x0n x0c] ⟨false, 0⟩]))) #[] #[]] ++ c_7) ((M ++ [AObj.cells [.slice x0 x0n x0c] ⟨false, 0⟩]) ++ [AObj.loop (lo33_6 .ready none (List.length M) 0 x1)])) fun r_1 =>
    rangeK (List.length (M ++ [AObj.cells [.slice x0 x0n x0c] ⟨false, 0⟩])) r_1 (fun M_3 =>
    P33_10 L (List.length M) M_3) (fun e_2 M_4 => (blockK 0 (seqK (code L (.clear [0, 1, 3, 4, 5, 6, 7, 8, 9, 10, 11, 12] c33_10) (retK [.tmp 4])) (retK [.tmp 4]))) e_2 [junk, junk, .pointer (some ⟨(List.length M), 0, none⟩), junk, .slice none 0 0, junk, x1, .tuple #[], junk, junk, junk, junk, junk] M_4))) := QE33 L P33_10 (Classical.choose_spec XP33_10) x0 x0n x0c x1 M
end Go.Proofs.Ytncfdkmhpnopiaa
