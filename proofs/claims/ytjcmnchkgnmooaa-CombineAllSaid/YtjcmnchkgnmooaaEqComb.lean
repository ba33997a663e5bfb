/- What the pieces of some functions come to. -/
import Derived.Test.YtjcmnchkgnmooaaCode
set_option linter.unusedVariables false
set_option maxRecDepth 100000
namespace Go.Proofs.Ytjcmnchkgnmooaa
open Go Go.Ax
/-! #### combine.New -/
theorem E6 (L : Rec) (x0_0 : Int) (x0_1 : Int) (x1 : Int) (M : AMem) : enterF L a6 [.agg #[.int .i64 x0_0, .int .i64 x0_1], .int .i64 x1] M =
  (Option.bind (intOf? .i64 (AMem.ld (M ++ [AObj.cells [.int .i64 x0_0, .int .i64 x0_1] ⟨false, 0⟩]) (List.length M) 0)) fun x_1 =>
    (Option.bind (intOf? .i64 (AMem.ld (M ++ [AObj.cells [.int .i64 x0_0, .int .i64 x0_1] ⟨false, 0⟩]) (List.length M) 1)) fun x_2 =>
    (Option.bind (L.call 12 [.agg #[.int .i64 x_1, .int .i64 x_2]] []) fun r_3 =>
    (Option.bind (boolOf? (some r_3.1)) fun q_4 =>
    (if (!q_4) = true
    then some (.pointer none, (M ++ [AObj.cells [.int .i64 x0_0, .int .i64 x0_1] ⟨false, 0⟩]))
    else (if (decide (x1 < 1)) = true
      then some (.pointer none, (M ++ [AObj.cells [.int .i64 x0_0, .int .i64 x0_1] ⟨false, 0⟩]))
      else (if (decide (x1 > 4096)) = true
        then some (.pointer none, (M ++ [AObj.cells [.int .i64 x0_0, .int .i64 x0_1] ⟨false, 0⟩]))
        else (Option.bind (intOf? .i64 (AMem.ld (M ++ [AObj.cells [.int .i64 x0_0, .int .i64 x0_1] ⟨false, 0⟩]) (List.length M) 0)) fun x_5 =>
          (Option.bind (intOf? .i64 (AMem.ld (M ++ [AObj.cells [.int .i64 x0_0, .int .i64 x0_1] ⟨false, 0⟩]) (List.length M) 1)) fun x_6 =>
          some (.pointer (some ⟨(List.length ((M ++ [AObj.cells [.int .i64 x0_0, .int .i64 x0_1] ⟨false, 0⟩]) ++ [AObj.map .i64 .i64 []])), 0, none⟩), (((M ++ [AObj.cells [.int .i64 x0_0, .int .i64 x0_1] ⟨false, 0⟩]) ++ [AObj.map .i64 .i64 []]) ++ [AObj.cells [.int .i64 x_5, .int .i64 x_6, .int .i64 x1, (Value.map (some (List.length (M ++ [AObj.cells [.int .i64 x0_0, .int .i64 x0_1] ⟨false, 0⟩])))), .slice none 0 0] ⟨false, 0⟩]))))))))))) := by kernel_rfl
/-! #### combine.Buffer.given -/
theorem E13 (L : Rec) (x0 : Option Addr) (M : AMem) : enterF L a13 [.pointer x0] M =
  (if (!(Option.isNone x0)) = true
    then (match x0 with
      | some a_1 => (Option.bind (anyOf? (AMem.ld M a_1.block (a_1.off + 3))) fun u_2 =>
        (Option.bind (isNil 3 u_2) fun q_3 =>
        some (.bool (!q_3), M)))
      | none => none)
    else some (.bool false, M)) := by kernel_rfl
/-! #### combine.Buffer.Put -/
noncomputable def k7_25 (L : Rec) : KT := blockK 0 (seqK (code L (.clear zl13 c7_29) (retK [.tmp 4])) (retK [.tmp 4]))
def s7_25 (x0 : Option Addr) (x3 : Nat) (x5 : Int) (M : AMem) : List Value := [.pointer x0, junk, junk, .pointer (some ⟨x3, 0, none⟩), junk, .int .i64 x5, junk, junk, junk, junk, junk, junk, junk, junk, junk, junk, junk, junk, junk, junk, junk, junk, junk, junk, junk, junk, junk, junk, junk, junk, junk, junk, junk, junk, junk, junk, junk, junk, junk, junk, junk, junk, junk, junk, junk, junk, junk, junk, junk, junk, junk, junk, junk, junk, junk, junk, junk, junk, junk, junk, junk, junk, junk, junk, junk, junk, junk, junk, junk, junk, junk, junk, junk, junk, junk, junk, junk, junk, junk, junk, junk, junk, junk, junk, junk, junk, junk, junk, junk, junk, junk, junk, junk, junk, junk, junk, junk, junk, junk, junk, junk, junk, junk, junk, junk, junk, junk, junk, junk, junk, junk, junk, junk]
theorem XP7_25 : ∃ P : Rec → (Option Addr) → Nat → Int → AMem → Res, P = fun (L : Rec) (x0 : Option Addr) (x3 : Nat) (x5 : Int) (M : AMem) => code L c7_25 (k7_25 L) (s7_25 x0 x3 x5 M) M := ⟨_, rfl⟩
noncomputable def P7_25 : Rec → (Option Addr) → Nat → Int → AMem → Res := Classical.choose XP7_25
noncomputable def k7_29 (L : Rec) : KT := retK [.tmp 4]
def s7_29 (x0 : Option Addr) (x3 : Nat) (x5 : Int) (M : AMem) : List Value := [.pointer x0, junk, junk, .pointer (some ⟨x3, 0, none⟩), junk, .int .i64 x5, junk, junk, junk, junk, junk, junk, junk, junk, junk, junk, junk, junk, junk, junk, junk, junk, junk, junk, junk, junk, junk, junk, junk, junk, junk, junk, junk, junk, junk, junk, junk, junk, junk, junk, junk, junk, junk, junk, junk, junk, junk, junk, junk, junk, junk, junk, junk, junk, junk, junk, junk, junk, junk, junk, junk, junk, junk, junk, junk, junk, junk, junk, junk, junk, junk, junk, junk, junk, junk, junk, junk, junk, junk, junk, junk, junk, junk, junk, junk, junk, junk, junk, junk, junk, junk, junk, junk, junk, junk, junk, junk, junk, junk, junk, junk, junk, junk, junk, junk, junk, junk, junk, junk, junk, junk, junk, junk]
theorem XP7_29 : ∃ P : Rec → (Option Addr) → Nat → Int → AMem → Res, P = fun (L : Rec) (x0 : Option Addr) (x3 : Nat) (x5 : Int) (M : AMem) => code L c7_29 (k7_29 L) (s7_29 x0 x3 x5 M) M := ⟨_, rfl⟩
noncomputable def P7_29 : Rec → (Option Addr) → Nat → Int → AMem → Res := Classical.choose XP7_29
noncomputable def k7_35 (L : Rec) : KT := blockK 1 (seqK (code L (.clear zl12 c7_48) (retK [.tmp 4])) (retK [.tmp 4]))
def s7_35 (x7 : Addr) (x97_0 : Int) (x97_1 : Int) (x97_2 : Int) (x98 : Int) (M : AMem) : List Value := [junk, junk, junk, junk, junk, junk, junk, .pointer (some x7), junk, junk, junk, junk, junk, junk, junk, junk, junk, junk, junk, junk, junk, junk, junk, junk, junk, junk, junk, junk, junk, junk, junk, junk, junk, junk, junk, junk, junk, junk, junk, junk, junk, junk, junk, junk, junk, junk, junk, junk, junk, junk, junk, junk, junk, junk, junk, junk, junk, junk, junk, junk, junk, junk, junk, junk, junk, junk, junk, junk, junk, junk, junk, junk, junk, junk, junk, junk, junk, junk, junk, junk, junk, junk, junk, junk, junk, junk, junk, junk, junk, junk, junk, junk, junk, junk, junk, junk, junk, .agg #[.int .i64 x97_0, .int .i64 x97_1, .int .i64 x97_2], .int .i64 x98, junk, junk, junk, junk, junk, junk, junk, junk, junk, junk, junk, junk, junk, junk]
theorem XP7_35 : ∃ P : Rec → Addr → Int → Int → Int → Int → AMem → Res, P = fun (L : Rec) (x7 : Addr) (x97_0 : Int) (x97_1 : Int) (x97_2 : Int) (x98 : Int) (M : AMem) => L.loop b7_35 (k7_35 L) (s7_35 x7 x97_0 x97_1 x97_2 x98 M) M := ⟨_, rfl⟩
noncomputable def P7_35 : Rec → Addr → Int → Int → Int → Int → AMem → Res := Classical.choose XP7_35
noncomputable def k7_47 (L : Rec) : KT := postK zl11 (loopK L b7_35 (blockK 1 (seqK (code L (.clear zl12 c7_48) (retK [.tmp 4])) (retK [.tmp 4]))))
def s7_47 (x7 : Addr) (x97_0 : Int) (x97_1 : Int) (x97_2 : Int) (x98 : Int) (M : AMem) : List Value := [junk, junk, junk, junk, junk, junk, junk, .pointer (some x7), junk, junk, junk, junk, junk, junk, junk, junk, junk, junk, junk, junk, junk, junk, junk, junk, junk, junk, junk, junk, junk, junk, junk, junk, junk, junk, junk, junk, junk, junk, junk, junk, junk, junk, junk, junk, junk, junk, junk, junk, junk, junk, junk, junk, junk, junk, junk, junk, junk, junk, junk, junk, junk, junk, junk, junk, junk, junk, junk, junk, junk, junk, junk, junk, junk, junk, junk, junk, junk, junk, junk, junk, junk, junk, junk, junk, junk, junk, junk, junk, junk, junk, junk, junk, junk, junk, junk, junk, junk, .agg #[.int .i64 x97_0, .int .i64 x97_1, .int .i64 x97_2], .int .i64 x98, junk, junk, junk, junk, junk, junk, junk, junk, junk, junk, junk, junk, junk, junk]
theorem XP7_47 : ∃ P : Rec → Addr → Int → Int → Int → Int → AMem → Res, P = fun (L : Rec) (x7 : Addr) (x97_0 : Int) (x97_1 : Int) (x97_2 : Int) (x98 : Int) (M : AMem) => code L c7_47 (k7_47 L) (s7_47 x7 x97_0 x97_1 x97_2 x98 M) M := ⟨_, rfl⟩
noncomputable def P7_47 : Rec → Addr → Int → Int → Int → Int → AMem → Res := Classical.choose XP7_47
noncomputable def k7_48 (L : Rec) : KT := retK [.tmp 4]
def s7_48 (M : AMem) : List Value := [junk, junk, junk, junk, junk, junk, junk, junk, junk, junk, junk, junk, junk, junk, junk, junk, junk, junk, junk, junk, junk, junk, junk, junk, junk, junk, junk, junk, junk, junk, junk, junk, junk, junk, junk, junk, junk, junk, junk, junk, junk, junk, junk, junk, junk, junk, junk, junk, junk, junk, junk, junk, junk, junk, junk, junk, junk, junk, junk, junk, junk, junk, junk, junk, junk, junk, junk, junk, junk, junk, junk, junk, junk, junk, junk, junk, junk, junk, junk, junk, junk, junk, junk, junk, junk, junk, junk, junk, junk, junk, junk, junk, junk, junk, junk, junk, junk, junk, junk, junk, junk, junk, junk, junk, junk, junk, junk, junk, junk, junk, junk, junk, junk]
theorem XP7_48 : ∃ P : Rec → AMem → Res, P = fun (L : Rec) (M : AMem) => code L c7_48 (k7_48 L) (s7_48 M) M := ⟨_, rfl⟩
noncomputable def P7_48 : Rec → AMem → Res := Classical.choose XP7_48
theorem QP7_25_eq (L : Rec) (c7_29 : ACode) (P7_25 : Rec → (Option Addr) → Nat → Int → AMem → Res) (hP7_25 : Eq P7_25 fun L x0 x3 x5 M => code L (.seq (.draw [] 0 o7_26 []) (.draw [] 0 o7_27 [(4, 8)])) (blockK 0 (seqK (code L (.clear zl13 c7_29) (retK [.tmp 4])) (retK [.tmp 4]))) (s7_25 x0 x3 x5 M) M) (P7_29 : Rec → (Option Addr) → Nat → Int → AMem → Res) (hP7_29 : Eq P7_29 fun L x0 x3 x5 M => code L c7_29 (retK [.tmp 4]) (s7_29 x0 x3 x5 M) M) (x0 : Option Addr) (x3 : Nat) (x5 : Int) (M : AMem) : P7_25 L x0 x3 x5 M =
  (match x0 with
    | some a_1 => (Option.bind (anyOf? (AMem.ld M a_1.block (a_1.off + 3))) fun u_2 =>
      (Option.bind (intOf? .i64 (AMem.ld M x3 0)) fun x_3 =>
      (Option.bind (mapOf? (some u_2)) fun r_4 =>
      (Option.bind (AMem.mp M .i64 .i64 r_4) fun es_5 =>
      (match x0 with
      | some a_6 => (Option.bind (sliceOf? (AMem.ld (AMem.mput M .i64 .i64 r_4 (mset x_3 x5 es_5)) a_6.block (a_6.off + 4))) fun s_7 =>
        (Option.bind (intOf? .i64 (AMem.ld (AMem.mput M .i64 .i64 r_4 (mset x_3 x5 es_5)) x3 0)) fun x_8 =>
        (Option.bind (rowOf ((AMem.mput M .i64 .i64 r_4 (mset x_3 x5 es_5)) ++ [AObj.cells [.int .i64 x_8, .int .u64 0, .int .u64 0, .int .u64 0] ⟨false, 0⟩]) 4 (.slice (some ⟨(List.length (AMem.mput M .i64 .i64 r_4 (mset x_3 x5 es_5))), 0, none⟩) 1 4)) fun row_9 =>
        (appendK 4 32 s_7.1 s_7.2.1 s_7.2.2 1 row_9 ((AMem.mput M .i64 .i64 r_4 (mset x_3 x5 es_5)) ++ [AObj.cells [.int .i64 x_8, .int .u64 0, .int .u64 0, .int .u64 0] ⟨false, 0⟩]) fun p_10 n_11 c_12 M_13 =>
        (match x0 with
        | some a_14 => (Option.bind (AMem.wr M_13 a_14.block (a_14.off + 4) [.slice p_10 n_11 c_12]) fun M_15 =>
          (if chkOk [(4, 8)] [(4, a_6.block)] [(8, ((AMem.mput M .i64 .i64 r_4 (mset x_3 x5 es_5)), ((AMem.mput M .i64 .i64 r_4 (mset x_3 x5 es_5)) ++ [AObj.cells [.int .i64 x_8, .int .u64 0, .int .u64 0, .int .u64 0] ⟨false, 0⟩])))] = true
          then P7_29 L x0 x3 x5 M_15
          else none))
        | none => none)))))
      | none => none)))))
    | none => none) := by
  subst hP7_25; subst hP7_29; kernel_rfl
theorem P7_25_eq (L : Rec) (x0 : Option Addr) (x3 : Nat) (x5 : Int) (M : AMem) : P7_25 L x0 x3 x5 M =
  (match x0 with
    | some a_1 => (Option.bind (anyOf? (AMem.ld M a_1.block (a_1.off + 3))) fun u_2 =>
      (Option.bind (intOf? .i64 (AMem.ld M x3 0)) fun x_3 =>
      (Option.bind (mapOf? (some u_2)) fun r_4 =>
      (Option.bind (AMem.mp M .i64 .i64 r_4) fun es_5 =>
      (match x0 with
      | some a_6 => (Option.bind (sliceOf? (AMem.ld (AMem.mput M .i64 .i64 r_4 (mset x_3 x5 es_5)) a_6.block (a_6.off + 4))) fun s_7 =>
        (Option.bind (intOf? .i64 (AMem.ld (AMem.mput M .i64 .i64 r_4 (mset x_3 x5 es_5)) x3 0)) fun x_8 =>
        (Option.bind (rowOf ((AMem.mput M .i64 .i64 r_4 (mset x_3 x5 es_5)) ++ [AObj.cells [.int .i64 x_8, .int .u64 0, .int .u64 0, .int .u64 0] ⟨false, 0⟩]) 4 (.slice (some ⟨(List.length (AMem.mput M .i64 .i64 r_4 (mset x_3 x5 es_5))), 0, none⟩) 1 4)) fun row_9 =>
        (appendK 4 32 s_7.1 s_7.2.1 s_7.2.2 1 row_9 ((AMem.mput M .i64 .i64 r_4 (mset x_3 x5 es_5)) ++ [AObj.cells [.int .i64 x_8, .int .u64 0, .int .u64 0, .int .u64 0] ⟨false, 0⟩]) fun p_10 n_11 c_12 M_13 =>
        (match x0 with
        | some a_14 => (Option.bind (AMem.wr M_13 a_14.block (a_14.off + 4) [.slice p_10 n_11 c_12]) fun M_15 =>
          (if chkOk [(4, 8)] [(4, a_6.block)] [(8, ((AMem.mput M .i64 .i64 r_4 (mset x_3 x5 es_5)), ((AMem.mput M .i64 .i64 r_4 (mset x_3 x5 es_5)) ++ [AObj.cells [.int .i64 x_8, .int .u64 0, .int .u64 0, .int .u64 0] ⟨false, 0⟩])))] = true
          then P7_29 L x0 x3 x5 M_15
          else none))
        | none => none)))))
      | none => none)))))
    | none => none) := QP7_25_eq L c7_29 P7_25 (Classical.choose_spec XP7_25) P7_29 (Classical.choose_spec XP7_29) x0 x3 x5 M
theorem QP7_29_eq (L : Rec) (b7_35 c7_48 : ACode) (P7_29 : Rec → (Option Addr) → Nat → Int → AMem → Res) (hP7_29 : Eq P7_29 fun L x0 x3 x5 M => code L (.seq (.ops o7_30) (.seq (.seq (.ops o7_33) (.block 1 (.clear zl11 (.loop b7_35)))) (.clear zl12 c7_48))) (retK [.tmp 4]) (s7_29 x0 x3 x5 M) M) (P7_35 : Rec → Addr → Int → Int → Int → Int → AMem → Res) (hP7_35 : Eq P7_35 fun L x7 x97_0 x97_1 x97_2 x98 M => L.loop b7_35 (blockK 1 (seqK (code L (.clear zl12 c7_48) (retK [.tmp 4])) (retK [.tmp 4]))) (s7_35 x7 x97_0 x97_1 x97_2 x98 M) M) (x0 : Option Addr) (x3 : Nat) (x5 : Int) (M : AMem) : P7_29 L x0 x3 x5 M =
  (match x0 with
    | some a_1 => (Option.bind (sliceOf? (AMem.ld M a_1.block (a_1.off + 4))) fun s_2 =>
      (match s_2.1 with
      | some a_3 => (if (0 : Int) ≤ x5 ∧ x5 < (Int.ofNat s_2.2.1)
        then (Option.bind (intOf? .i64 (AMem.ld M x3 1)) fun x_4 =>
          (Option.bind (intOf? .i64 (AMem.ld M x3 2)) fun x_5 =>
          (Option.bind (intOf? .i64 (AMem.ld M x3 3)) fun x_6 =>
          P7_35 L ⟨a_3.block, ((a_3.off + ((Int.toNat x5) * 4)) + 1), none⟩ x_4 x_5 x_6 0 M)))
        else none)
      | none => none))
    | none => none) := by
  subst hP7_29; subst hP7_35; kernel_rfl
theorem P7_29_eq (L : Rec) (x0 : Option Addr) (x3 : Nat) (x5 : Int) (M : AMem) : P7_29 L x0 x3 x5 M =
  (match x0 with
    | some a_1 => (Option.bind (sliceOf? (AMem.ld M a_1.block (a_1.off + 4))) fun s_2 =>
      (match s_2.1 with
      | some a_3 => (if (0 : Int) ≤ x5 ∧ x5 < (Int.ofNat s_2.2.1)
        then (Option.bind (intOf? .i64 (AMem.ld M x3 1)) fun x_4 =>
          (Option.bind (intOf? .i64 (AMem.ld M x3 2)) fun x_5 =>
          (Option.bind (intOf? .i64 (AMem.ld M x3 3)) fun x_6 =>
          P7_35 L ⟨a_3.block, ((a_3.off + ((Int.toNat x5) * 4)) + 1), none⟩ x_4 x_5 x_6 0 M)))
        else none)
      | none => none))
    | none => none) := QP7_29_eq L b7_35 c7_48 P7_29 (Classical.choose_spec XP7_29) P7_35 (Classical.choose_spec XP7_35) x0 x3 x5 M
theorem QP7_35_eq (L : Rec) (b7_35 c7_47 c7_48 : ACode) (hb : ∀ K t A, L.loop b7_35 K t A = code L (.post (.seq (.ops o7_37) (.seq (.cond (.tmp 99) (.skip) (.exit 1)) (.seq (.block 2 (.seq (.ops o7_45) (.draw [] 0 o7_46 []))) (.clear zl11 c7_47)))) zl11) (loopK L b7_35 K) t A) (P7_35 : Rec → Addr → Int → Int → Int → Int → AMem → Res) (hP7_35 : Eq P7_35 fun L x7 x97_0 x97_1 x97_2 x98 M => L.loop b7_35 (blockK 1 (seqK (code L (.clear zl12 c7_48) (retK [.tmp 4])) (retK [.tmp 4]))) (s7_35 x7 x97_0 x97_1 x97_2 x98 M) M) (P7_47 : Rec → Addr → Int → Int → Int → Int → AMem → Res) (hP7_47 : Eq P7_47 fun L x7 x97_0 x97_1 x97_2 x98 M => code L c7_47 (postK zl11 (loopK L b7_35 (blockK 1 (seqK (code L (.clear zl12 c7_48) (retK [.tmp 4])) (retK [.tmp 4]))))) (s7_47 x7 x97_0 x97_1 x97_2 x98 M) M) (P7_48 : Rec → AMem → Res) (hP7_48 : Eq P7_48 fun L M => code L c7_48 (retK [.tmp 4]) (s7_48 M) M) (x7 : Addr) (x97_0 : Int) (x97_1 : Int) (x97_2 : Int) (x98 : Int) (M : AMem) : P7_35 L x7 x97_0 x97_1 x97_2 x98 M =
  (if (decide (x98 < 3)) = true
    then (if (0 : Int) ≤ x98 ∧ x98 < 3
      then (Option.bind (([x97_0, x97_1, x97_2] : List Int)[((Int.toNat x98) * 1)]?) fun x_1 =>
        (if (0 : Int) ≤ x98 ∧ x98 < 3
        then (Option.bind (intOf? .u64 (AMem.ld M x7.block (x7.off + ((Int.toNat x98) * 1)))) fun x_2 =>
          (if (0 : Int) ≤ x98 ∧ x98 < 3
          then (Option.bind (AMem.wr M x7.block (x7.off + ((Int.toNat x98) * 1)) [.int .u64 (IntKind.wrap .u64 (x_2 + (IntKind.wrap .u64 x_1)))]) fun M_3 =>
            P7_47 L x7 x97_0 x97_1 x97_2 x98 M_3)
          else none))
        else none))
      else none)
    else P7_48 L M) := by
  subst hP7_35; subst hP7_47; subst hP7_48; exact (hb (blockK 1 (seqK (code L (.clear zl12 c7_48) (retK [.tmp 4])) (retK [.tmp 4]))) (s7_35 x7 x97_0 x97_1 x97_2 x98 M) M).trans (by kernel_rfl)
theorem P7_35_eq (L : Rec) (hL : ∀ b K t A, L.loop b K t A = code L b (loopK L b K) t A) (x7 : Addr) (x97_0 : Int) (x97_1 : Int) (x97_2 : Int) (x98 : Int) (M : AMem) : P7_35 L x7 x97_0 x97_1 x97_2 x98 M =
  (if (decide (x98 < 3)) = true
    then (if (0 : Int) ≤ x98 ∧ x98 < 3
      then (Option.bind (([x97_0, x97_1, x97_2] : List Int)[((Int.toNat x98) * 1)]?) fun x_1 =>
        (if (0 : Int) ≤ x98 ∧ x98 < 3
        then (Option.bind (intOf? .u64 (AMem.ld M x7.block (x7.off + ((Int.toNat x98) * 1)))) fun x_2 =>
          (if (0 : Int) ≤ x98 ∧ x98 < 3
          then (Option.bind (AMem.wr M x7.block (x7.off + ((Int.toNat x98) * 1)) [.int .u64 (IntKind.wrap .u64 (x_2 + (IntKind.wrap .u64 x_1)))]) fun M_3 =>
            P7_47 L x7 x97_0 x97_1 x97_2 x98 M_3)
          else none))
        else none))
      else none)
    else P7_48 L M) := QP7_35_eq L b7_35 c7_47 c7_48 (hL b7_35) P7_35 (Classical.choose_spec XP7_35) P7_47 (Classical.choose_spec XP7_47) P7_48 (Classical.choose_spec XP7_48) x7 x97_0 x97_1 x97_2 x98 M
theorem QP7_47_eq (L : Rec) (b7_35 c7_48 : ACode) (P7_35 : Rec → Addr → Int → Int → Int → Int → AMem → Res) (hP7_35 : Eq P7_35 fun L x7 x97_0 x97_1 x97_2 x98 M => L.loop b7_35 (blockK 1 (seqK (code L (.clear zl12 c7_48) (retK [.tmp 4])) (retK [.tmp 4]))) (s7_35 x7 x97_0 x97_1 x97_2 x98 M) M) (P7_47 : Rec → Addr → Int → Int → Int → Int → AMem → Res) (hP7_47 : Eq P7_47 fun L x7 x97_0 x97_1 x97_2 x98 M => code L (.ops o7_47) (postK zl11 (loopK L b7_35 (blockK 1 (seqK (code L (.clear zl12 c7_48) (retK [.tmp 4])) (retK [.tmp 4]))))) (s7_47 x7 x97_0 x97_1 x97_2 x98 M) M) (x7 : Addr) (x97_0 : Int) (x97_1 : Int) (x97_2 : Int) (x98 : Int) (M : AMem) : P7_47 L x7 x97_0 x97_1 x97_2 x98 M =
  P7_35 L x7 x97_0 x97_1 x97_2 (IntKind.wrap .i64 (x98 + 1)) M := by
  subst hP7_35; subst hP7_47; kernel_rfl
theorem P7_47_eq (L : Rec) (x7 : Addr) (x97_0 : Int) (x97_1 : Int) (x97_2 : Int) (x98 : Int) (M : AMem) : P7_47 L x7 x97_0 x97_1 x97_2 x98 M =
  P7_35 L x7 x97_0 x97_1 x97_2 (IntKind.wrap .i64 (x98 + 1)) M := QP7_47_eq L b7_35 c7_48 P7_35 (Classical.choose_spec XP7_35) P7_47 (Classical.choose_spec XP7_47) x7 x97_0 x97_1 x97_2 x98 M
theorem QP7_48_eq (L : Rec) (P7_48 : Rec → AMem → Res) (hP7_48 : Eq P7_48 fun L M => code L (.seq (.ops o7_49) (.ret)) (retK [.tmp 4]) (s7_48 M) M) (M : AMem) : P7_48 L M =
  some (.bool true, M) := by
  subst hP7_48; kernel_rfl
theorem P7_48_eq (L : Rec) (M : AMem) : P7_48 L M =
  some (.bool true, M) := QP7_48_eq L P7_48 (Classical.choose_spec XP7_48) M
theorem QE7 (L : Rec) (c7_25 c7_29 : ACode) (P7_25 : Rec → (Option Addr) → Nat → Int → AMem → Res) (hP7_25 : Eq P7_25 fun L x0 x3 x5 M => code L c7_25 (blockK 0 (seqK (code L (.clear zl13 c7_29) (retK [.tmp 4])) (retK [.tmp 4]))) (s7_25 x0 x3 x5 M) M) (P7_29 : Rec → (Option Addr) → Nat → Int → AMem → Res) (hP7_29 : Eq P7_29 fun L x0 x3 x5 M => code L c7_29 (retK [.tmp 4]) (s7_29 x0 x3 x5 M) M) (x0 : Option Addr) (x1_0 : Int) (x1_1 : Int) (x1_2 : Int) (x1_3 : Int) (M : AMem) : enterF L ⟨113, [.tmp 4], .seq (.ops o7_1) (.seq (.seq (.draw [] 0 o7_4 []) (.cond (.tmp 28) (.seq (.ops o7_7) (.ret)) (.skip))) (.seq (.draw [] 0 o7_11 []) (.seq (.block 0 (.seq (.draw [] 0 o7_15 []) (.cond (.tmp 39) (.seq (.ops o7_18) (.ret)) (.seq (.ops o7_21) (.cond (.tmp 54) (.seq (.ops o7_24) (.clear zl13 c7_25)) (.skip)))))) (.clear zl13 c7_29))))⟩ [.pointer x0, .agg #[.int .i64 x1_0, .int .i64 x1_1, .int .i64 x1_2, .int .i64 x1_3]] M =
  (Option.bind (L.call 13 [.pointer x0] (M ++ [AObj.cells [.int .i64 x1_0, .int .i64 x1_1, .int .i64 x1_2, .int .i64 x1_3] ⟨false, 0⟩])) fun r_1 =>
    (Option.bind (boolOf? (some r_1.1)) fun q_2 =>
    (if (!q_2) = true
    then some (.bool false, r_1.2)
    else (match x0 with
      | some a_3 => (Option.bind (intOf? .i64 (AMem.ld r_1.2 a_3.block a_3.off)) fun x_4 =>
        (Option.bind (intOf? .i64 (AMem.ld r_1.2 a_3.block (a_3.off + 1))) fun x_5 =>
        (Option.bind (intOf? .i64 (AMem.ld r_1.2 (List.length M) 0)) fun x_6 =>
        (Option.bind (L.call 14 [.agg #[.int .i64 x_4, .int .i64 x_5], .int .i64 x_6] []) fun r_7 =>
        (Option.bind (intOf? .i64 (some r_7.1)) fun x_8 =>
        (if (decide (x_8 < 0)) = true
        then some (.bool false, r_1.2)
        else (Option.bind (intOf? .i64 (AMem.ld r_1.2 (List.length M) 1)) fun x_9 =>
          (Option.bind (intOf? .i64 (AMem.ld r_1.2 (List.length M) 2)) fun x_10 =>
          (Option.bind (intOf? .i64 (AMem.ld r_1.2 (List.length M) 3)) fun x_11 =>
          (Option.bind (L.call 15 [.agg #[.int .i64 x_9, .int .i64 x_10, .int .i64 x_11]] []) fun r_12 =>
          (Option.bind (boolOf? (some r_12.1)) fun q_13 =>
          (if (!q_13) = true
          then some (.bool false, r_1.2)
          else (match x0 with
            | some a_14 => (Option.bind (anyOf? (AMem.ld r_1.2 a_14.block (a_14.off + 3))) fun u_15 =>
              (Option.bind (intOf? .i64 (AMem.ld r_1.2 (List.length M) 0)) fun x_16 =>
              (Option.bind (mapOf? (some u_15)) fun r_17 =>
              (Option.bind (AMem.mp r_1.2 .i64 .i64 r_17) fun es_18 =>
              (if (!(Option.isSome (mget x_16 es_18))) = true
              then (match x0 with
                | some a_19 => (Option.bind (sliceOf? (AMem.ld r_1.2 a_19.block (a_19.off + 4))) fun s_20 =>
                  (match x0 with
                  | some a_21 => (Option.bind (intOf? .i64 (AMem.ld r_1.2 a_21.block (a_21.off + 2))) fun x_22 =>
                    (if ((Int.ofNat s_20.2.1) == x_22) = true
                    then some (.bool false, r_1.2)
                    else (if (!(Option.isSome (mget x_16 es_18))) = true
                      then (match x0 with
                        | some a_23 => (Option.bind (sliceOf? (AMem.ld r_1.2 a_23.block (a_23.off + 4))) fun s_24 =>
                          P7_25 L x0 (List.length M) (Int.ofNat s_24.2.1) r_1.2)
                        | none => none)
                      else P7_29 L x0 (List.length M) (Option.getD (mget x_16 es_18) 0) r_1.2)))
                  | none => none))
                | none => none)
              else (if (!(Option.isSome (mget x_16 es_18))) = true
                then (match x0 with
                  | some a_25 => (Option.bind (sliceOf? (AMem.ld r_1.2 a_25.block (a_25.off + 4))) fun s_26 =>
                    P7_25 L x0 (List.length M) (Int.ofNat s_26.2.1) r_1.2)
                  | none => none)
                else P7_29 L x0 (List.length M) (Option.getD (mget x_16 es_18) 0) r_1.2))))))
            | none => none)))))))))))))
      | none => none)))) := by
  subst hP7_25; subst hP7_29; kernel_rfl
theorem E7 (L : Rec) (x0 : Option Addr) (x1_0 : Int) (x1_1 : Int) (x1_2 : Int) (x1_3 : Int) (M : AMem) : enterF L a7 [.pointer x0, .agg #[.int .i64 x1_0, .int .i64 x1_1, .int .i64 x1_2, .int .i64 x1_3]] M =
  (Option.bind (L.call 13 [.pointer x0] (M ++ [AObj.cells [.int .i64 x1_0, .int .i64 x1_1, .int .i64 x1_2, .int .i64 x1_3] ⟨false, 0⟩])) fun r_1 =>
    (Option.bind (boolOf? (some r_1.1)) fun q_2 =>
    (if (!q_2) = true
    then some (.bool false, r_1.2)
    else (match x0 with
      | some a_3 => (Option.bind (intOf? .i64 (AMem.ld r_1.2 a_3.block a_3.off)) fun x_4 =>
        (Option.bind (intOf? .i64 (AMem.ld r_1.2 a_3.block (a_3.off + 1))) fun x_5 =>
        (Option.bind (intOf? .i64 (AMem.ld r_1.2 (List.length M) 0)) fun x_6 =>
        (Option.bind (L.call 14 [.agg #[.int .i64 x_4, .int .i64 x_5], .int .i64 x_6] []) fun r_7 =>
        (Option.bind (intOf? .i64 (some r_7.1)) fun x_8 =>
        (if (decide (x_8 < 0)) = true
        then some (.bool false, r_1.2)
        else (Option.bind (intOf? .i64 (AMem.ld r_1.2 (List.length M) 1)) fun x_9 =>
          (Option.bind (intOf? .i64 (AMem.ld r_1.2 (List.length M) 2)) fun x_10 =>
          (Option.bind (intOf? .i64 (AMem.ld r_1.2 (List.length M) 3)) fun x_11 =>
          (Option.bind (L.call 15 [.agg #[.int .i64 x_9, .int .i64 x_10, .int .i64 x_11]] []) fun r_12 =>
          (Option.bind (boolOf? (some r_12.1)) fun q_13 =>
          (if (!q_13) = true
          then some (.bool false, r_1.2)
          else (match x0 with
            | some a_14 => (Option.bind (anyOf? (AMem.ld r_1.2 a_14.block (a_14.off + 3))) fun u_15 =>
              (Option.bind (intOf? .i64 (AMem.ld r_1.2 (List.length M) 0)) fun x_16 =>
              (Option.bind (mapOf? (some u_15)) fun r_17 =>
              (Option.bind (AMem.mp r_1.2 .i64 .i64 r_17) fun es_18 =>
              (if (!(Option.isSome (mget x_16 es_18))) = true
              then (match x0 with
                | some a_19 => (Option.bind (sliceOf? (AMem.ld r_1.2 a_19.block (a_19.off + 4))) fun s_20 =>
                  (match x0 with
                  | some a_21 => (Option.bind (intOf? .i64 (AMem.ld r_1.2 a_21.block (a_21.off + 2))) fun x_22 =>
                    (if ((Int.ofNat s_20.2.1) == x_22) = true
                    then some (.bool false, r_1.2)
                    else (if (!(Option.isSome (mget x_16 es_18))) = true
                      then (match x0 with
                        | some a_23 => (Option.bind (sliceOf? (AMem.ld r_1.2 a_23.block (a_23.off + 4))) fun s_24 =>
                          P7_25 L x0 (List.length M) (Int.ofNat s_24.2.1) r_1.2)
                        | none => none)
                      else P7_29 L x0 (List.length M) (Option.getD (mget x_16 es_18) 0) r_1.2)))
                  | none => none))
                | none => none)
              else (if (!(Option.isSome (mget x_16 es_18))) = true
                then (match x0 with
                  | some a_25 => (Option.bind (sliceOf? (AMem.ld r_1.2 a_25.block (a_25.off + 4))) fun s_26 =>
                    P7_25 L x0 (List.length M) (Int.ofNat s_26.2.1) r_1.2)
                  | none => none)
                else P7_29 L x0 (List.length M) (Option.getD (mget x_16 es_18) 0) r_1.2))))))
            | none => none)))))))))))))
      | none => none)))) := QE7 L c7_25 c7_29 P7_25 (Classical.choose_spec XP7_25) P7_29 (Classical.choose_spec XP7_29) x0 x1_0 x1_1 x1_2 x1_3 M
/-! #### combine.Buffer.Len -/
theorem E9 (L : Rec) (x0 : Option Addr) (M : AMem) : enterF L a9 [.pointer x0] M =
  (Option.bind (L.call 13 [.pointer x0] M) fun r_1 =>
    (Option.bind (boolOf? (some r_1.1)) fun q_2 =>
    (if (!q_2) = true
    then some (.int .i64 0, r_1.2)
    else (match x0 with
      | some a_3 => (Option.bind (sliceOf? (AMem.ld r_1.2 a_3.block (a_3.off + 4))) fun s_4 =>
        some (.int .i64 (Int.ofNat s_4.2.1), r_1.2))
      | none => none)))) := by kernel_rfl
/-! #### combine.Buffer.Get -/
theorem E11 (L : Rec) (x0 : Option Addr) (x1 : Int) (M : AMem) : enterF L a11 [.pointer x0, .int .i64 x1] M =
  (Option.bind (L.call 13 [.pointer x0] (M ++ [AObj.cells [.int .u64 0, .int .u64 0, .int .u64 0] ⟨false, 0⟩])) fun r_1 =>
    (Option.bind (boolOf? (some r_1.1)) fun q_2 =>
    (if (!q_2) = true
    then (Option.bind (AMem.wr r_1.2 (List.length M) 0 [.int .u64 0, .int .u64 0, .int .u64 0]) fun M_3 =>
      (Option.bind (intOf? .u64 (AMem.ld M_3 (List.length M) 0)) fun x_4 =>
      (Option.bind (intOf? .u64 (AMem.ld M_3 (List.length M) 1)) fun x_5 =>
      (Option.bind (intOf? .u64 (AMem.ld M_3 (List.length M) 2)) fun x_6 =>
      some (.tuple #[.agg #[.int .u64 x_4, .int .u64 x_5, .int .u64 x_6], .bool false], M_3)))))
    else (match x0 with
      | some a_7 => (Option.bind (anyOf? (AMem.ld r_1.2 a_7.block (a_7.off + 3))) fun u_8 =>
        (Option.bind (mapOf? (some u_8)) fun r_9 =>
        (Option.bind (AMem.mp r_1.2 .i64 .i64 r_9) fun es_10 =>
        (if (!(Option.isSome (mget x1 es_10))) = true
        then (Option.bind (AMem.wr r_1.2 (List.length M) 0 [.int .u64 0, .int .u64 0, .int .u64 0]) fun M_11 =>
          (Option.bind (intOf? .u64 (AMem.ld M_11 (List.length M) 0)) fun x_12 =>
          (Option.bind (intOf? .u64 (AMem.ld M_11 (List.length M) 1)) fun x_13 =>
          (Option.bind (intOf? .u64 (AMem.ld M_11 (List.length M) 2)) fun x_14 =>
          some (.tuple #[.agg #[.int .u64 x_12, .int .u64 x_13, .int .u64 x_14], .bool false], M_11)))))
        else (match x0 with
          | some a_15 => (Option.bind (sliceOf? (AMem.ld r_1.2 a_15.block (a_15.off + 4))) fun s_16 =>
            (match s_16.1 with
            | some a_17 => (if (0 : Int) ≤ (Option.getD (mget x1 es_10) 0) ∧ (Option.getD (mget x1 es_10) 0) < (Int.ofNat s_16.2.1)
              then (Option.bind (intOf? .u64 (AMem.ld r_1.2 a_17.block ((a_17.off + ((Int.toNat (Option.getD (mget x1 es_10) 0)) * 4)) + 1))) fun x_18 =>
                (Option.bind (intOf? .u64 (AMem.ld r_1.2 a_17.block (((a_17.off + ((Int.toNat (Option.getD (mget x1 es_10) 0)) * 4)) + 1) + 1))) fun x_19 =>
                (Option.bind (intOf? .u64 (AMem.ld r_1.2 a_17.block (((a_17.off + ((Int.toNat (Option.getD (mget x1 es_10) 0)) * 4)) + 1) + 2))) fun x_20 =>
                (Option.bind (AMem.wr r_1.2 (List.length M) 0 [.int .u64 x_18, .int .u64 x_19, .int .u64 x_20]) fun M_21 =>
                (Option.bind (intOf? .u64 (AMem.ld M_21 (List.length M) 0)) fun x_22 =>
                (Option.bind (intOf? .u64 (AMem.ld M_21 (List.length M) 1)) fun x_23 =>
                (Option.bind (intOf? .u64 (AMem.ld M_21 (List.length M) 2)) fun x_24 =>
                some (.tuple #[.agg #[.int .u64 x_22, .int .u64 x_23, .int .u64 x_24], .bool true], M_21))))))))
              else none)
            | none => none))
          | none => none)))))
      | none => none)))) := by kernel_rfl
/-! #### combine.Buffer.Stripes -/
noncomputable def k10_16 (L : Rec) : KT := blockK 0 (seqK (code L (.clear zl17 c10_29) (retK [.tmp 2])) (retK [.tmp 2]))
def s10_16 (x0 : Option Addr) (x3 : Option Addr) (x3n : Nat) (x3c : Nat) (x12 : Option Addr) (x12n : Nat) (x12c : Nat) (x13 : Int) (x14 : Int) (M : AMem) : List Value := [.pointer x0, junk, junk, .slice x3 x3n x3c, junk, junk, junk, junk, junk, junk, junk, junk, .slice x12 x12n x12c, .int .i64 x13, .int .i64 x14, junk, junk, junk, junk, junk, junk, junk, junk, junk, junk, junk, junk, junk, junk, junk, junk, junk, junk]
theorem XP10_16 : ∃ P : Rec → (Option Addr) → (Option Addr) → Nat → Nat → (Option Addr) → Nat → Nat → Int → Int → AMem → Res, P = fun (L : Rec) (x0 : Option Addr) (x3 : Option Addr) (x3n : Nat) (x3c : Nat) (x12 : Option Addr) (x12n : Nat) (x12c : Nat) (x13 : Int) (x14 : Int) (M : AMem) => L.loop b10_16 (k10_16 L) (s10_16 x0 x3 x3n x3c x12 x12n x12c x13 x14 M) M := ⟨_, rfl⟩
noncomputable def P10_16 : Rec → (Option Addr) → (Option Addr) → Nat → Nat → (Option Addr) → Nat → Nat → Int → Int → AMem → Res := Classical.choose XP10_16
noncomputable def k10_28 (L : Rec) : KT := postK zl16 (loopK L b10_16 (blockK 0 (seqK (code L (.clear zl17 c10_29) (retK [.tmp 2])) (retK [.tmp 2]))))
def s10_28 (x0 : Option Addr) (x3 : Option Addr) (x3n : Nat) (x3c : Nat) (x12 : Option Addr) (x12n : Nat) (x12c : Nat) (x13 : Int) (x14 : Int) (M : AMem) : List Value := [.pointer x0, junk, junk, .slice x3 x3n x3c, junk, junk, junk, junk, junk, junk, junk, junk, .slice x12 x12n x12c, .int .i64 x13, .int .i64 x14, junk, junk, junk, junk, junk, junk, junk, junk, junk, junk, junk, junk, junk, junk, junk, junk, junk, junk]
theorem XP10_28 : ∃ P : Rec → (Option Addr) → (Option Addr) → Nat → Nat → (Option Addr) → Nat → Nat → Int → Int → AMem → Res, P = fun (L : Rec) (x0 : Option Addr) (x3 : Option Addr) (x3n : Nat) (x3c : Nat) (x12 : Option Addr) (x12n : Nat) (x12c : Nat) (x13 : Int) (x14 : Int) (M : AMem) => code L c10_28 (k10_28 L) (s10_28 x0 x3 x3n x3c x12 x12n x12c x13 x14 M) M := ⟨_, rfl⟩
noncomputable def P10_28 : Rec → (Option Addr) → (Option Addr) → Nat → Nat → (Option Addr) → Nat → Nat → Int → Int → AMem → Res := Classical.choose XP10_28
noncomputable def k10_29 (L : Rec) : KT := retK [.tmp 2]
def s10_29 (x3 : Option Addr) (x3n : Nat) (x3c : Nat) (M : AMem) : List Value := [junk, junk, junk, .slice x3 x3n x3c, junk, junk, junk, junk, junk, junk, junk, junk, junk, junk, junk, junk, junk, junk, junk, junk, junk, junk, junk, junk, junk, junk, junk, junk, junk, junk, junk, junk, junk]
theorem XP10_29 : ∃ P : Rec → (Option Addr) → Nat → Nat → AMem → Res, P = fun (L : Rec) (x3 : Option Addr) (x3n : Nat) (x3c : Nat) (M : AMem) => code L c10_29 (k10_29 L) (s10_29 x3 x3n x3c M) M := ⟨_, rfl⟩
noncomputable def P10_29 : Rec → (Option Addr) → Nat → Nat → AMem → Res := Classical.choose XP10_29
theorem QP10_16_eq (L : Rec) (b10_16 c10_28 c10_29 : ACode) (hb : ∀ K t A, L.loop b10_16 K t A = code L (.post (.seq (.ops o10_18) (.seq (.cond (.tmp 15) (.skip) (.exit 0)) (.seq (.block 1 (.seq (.ops o10_26) (.draw [] 0 o10_27 []))) (.clear zl16 c10_28)))) zl16) (loopK L b10_16 K) t A) (P10_16 : Rec → (Option Addr) → (Option Addr) → Nat → Nat → (Option Addr) → Nat → Nat → Int → Int → AMem → Res) (hP10_16 : Eq P10_16 fun L x0 x3 x3n x3c x12 x12n x12c x13 x14 M => L.loop b10_16 (blockK 0 (seqK (code L (.clear zl17 c10_29) (retK [.tmp 2])) (retK [.tmp 2]))) (s10_16 x0 x3 x3n x3c x12 x12n x12c x13 x14 M) M) (P10_28 : Rec → (Option Addr) → (Option Addr) → Nat → Nat → (Option Addr) → Nat → Nat → Int → Int → AMem → Res) (hP10_28 : Eq P10_28 fun L x0 x3 x3n x3c x12 x12n x12c x13 x14 M => code L c10_28 (postK zl16 (loopK L b10_16 (blockK 0 (seqK (code L (.clear zl17 c10_29) (retK [.tmp 2])) (retK [.tmp 2]))))) (s10_28 x0 x3 x3n x3c x12 x12n x12c x13 x14 M) M) (P10_29 : Rec → (Option Addr) → Nat → Nat → AMem → Res) (hP10_29 : Eq P10_29 fun L x3 x3n x3c M => code L c10_29 (retK [.tmp 2]) (s10_29 x3 x3n x3c M) M) (x0 : Option Addr) (x3 : Option Addr) (x3n : Nat) (x3c : Nat) (x12 : Option Addr) (x12n : Nat) (x12c : Nat) (x13 : Int) (x14 : Int) (M : AMem) : P10_16 L x0 x3 x3n x3c x12 x12n x12c x13 x14 M =
  (if (decide (x14 < x13)) = true
    then (match x12 with
      | some a_1 => (if (0 : Int) ≤ x14 ∧ x14 < (Int.ofNat x12n)
        then (Option.bind (intOf? .i64 (AMem.ld M a_1.block (a_1.off + ((Int.toNat x14) * 4)))) fun x_2 =>
          (Option.bind (intOf? .u64 (AMem.ld M a_1.block ((a_1.off + ((Int.toNat x14) * 4)) + 1))) fun x_3 =>
          (Option.bind (intOf? .u64 (AMem.ld M a_1.block ((a_1.off + ((Int.toNat x14) * 4)) + 2))) fun x_4 =>
          (Option.bind (intOf? .u64 (AMem.ld M a_1.block ((a_1.off + ((Int.toNat x14) * 4)) + 3))) fun x_5 =>
          (Option.bind (AMem.wr (M ++ [AObj.cells [.int .i64 0, .int .u64 0, .int .u64 0, .int .u64 0] ⟨false, 0⟩]) (List.length M) 0 [.int .i64 x_2, .int .u64 x_3, .int .u64 x_4, .int .u64 x_5]) fun M_6 =>
          (match x0 with
          | some a_7 => (Option.bind (intOf? .i64 (AMem.ld M_6 a_7.block a_7.off)) fun x_8 =>
            (Option.bind (intOf? .i64 (AMem.ld M_6 a_7.block (a_7.off + 1))) fun x_9 =>
            (Option.bind (intOf? .i64 (AMem.ld M_6 (List.length M) 0)) fun x_10 =>
            (Option.bind (L.call 14 [.agg #[.int .i64 x_8, .int .i64 x_9], .int .i64 x_10] []) fun r_11 =>
            (Option.bind (intOf? .i64 (some r_11.1)) fun x_12 =>
            (Option.bind (rowOf (M_6 ++ [AObj.cells [.int .i64 x_12] ⟨false, 0⟩]) 1 (.slice (some ⟨(List.length M_6), 0, none⟩) 1 1)) fun row_13 =>
            (appendK 1 8 x3 x3n x3c 1 row_13 (M_6 ++ [AObj.cells [.int .i64 x_12] ⟨false, 0⟩]) fun p_14 n_15 c_16 M_17 =>
            P10_28 L x0 p_14 n_15 c_16 x12 x12n x12c x13 x14 M_17)))))))
          | none => none))))))
        else none)
      | none => none)
    else P10_29 L x3 x3n x3c M) := by
  subst hP10_16; subst hP10_28; subst hP10_29; exact (hb (blockK 0 (seqK (code L (.clear zl17 c10_29) (retK [.tmp 2])) (retK [.tmp 2]))) (s10_16 x0 x3 x3n x3c x12 x12n x12c x13 x14 M) M).trans (by kernel_rfl)
theorem P10_16_eq (L : Rec) (hL : ∀ b K t A, L.loop b K t A = code L b (loopK L b K) t A) (x0 : Option Addr) (x3 : Option Addr) (x3n : Nat) (x3c : Nat) (x12 : Option Addr) (x12n : Nat) (x12c : Nat) (x13 : Int) (x14 : Int) (M : AMem) : P10_16 L x0 x3 x3n x3c x12 x12n x12c x13 x14 M =
  (if (decide (x14 < x13)) = true
    then (match x12 with
      | some a_1 => (if (0 : Int) ≤ x14 ∧ x14 < (Int.ofNat x12n)
        then (Option.bind (intOf? .i64 (AMem.ld M a_1.block (a_1.off + ((Int.toNat x14) * 4)))) fun x_2 =>
          (Option.bind (intOf? .u64 (AMem.ld M a_1.block ((a_1.off + ((Int.toNat x14) * 4)) + 1))) fun x_3 =>
          (Option.bind (intOf? .u64 (AMem.ld M a_1.block ((a_1.off + ((Int.toNat x14) * 4)) + 2))) fun x_4 =>
          (Option.bind (intOf? .u64 (AMem.ld M a_1.block ((a_1.off + ((Int.toNat x14) * 4)) + 3))) fun x_5 =>
          (Option.bind (AMem.wr (M ++ [AObj.cells [.int .i64 0, .int .u64 0, .int .u64 0, .int .u64 0] ⟨false, 0⟩]) (List.length M) 0 [.int .i64 x_2, .int .u64 x_3, .int .u64 x_4, .int .u64 x_5]) fun M_6 =>
          (match x0 with
          | some a_7 => (Option.bind (intOf? .i64 (AMem.ld M_6 a_7.block a_7.off)) fun x_8 =>
            (Option.bind (intOf? .i64 (AMem.ld M_6 a_7.block (a_7.off + 1))) fun x_9 =>
            (Option.bind (intOf? .i64 (AMem.ld M_6 (List.length M) 0)) fun x_10 =>
            (Option.bind (L.call 14 [.agg #[.int .i64 x_8, .int .i64 x_9], .int .i64 x_10] []) fun r_11 =>
            (Option.bind (intOf? .i64 (some r_11.1)) fun x_12 =>
            (Option.bind (rowOf (M_6 ++ [AObj.cells [.int .i64 x_12] ⟨false, 0⟩]) 1 (.slice (some ⟨(List.length M_6), 0, none⟩) 1 1)) fun row_13 =>
            (appendK 1 8 x3 x3n x3c 1 row_13 (M_6 ++ [AObj.cells [.int .i64 x_12] ⟨false, 0⟩]) fun p_14 n_15 c_16 M_17 =>
            P10_28 L x0 p_14 n_15 c_16 x12 x12n x12c x13 x14 M_17)))))))
          | none => none))))))
        else none)
      | none => none)
    else P10_29 L x3 x3n x3c M) := QP10_16_eq L b10_16 c10_28 c10_29 (hL b10_16) P10_16 (Classical.choose_spec XP10_16) P10_28 (Classical.choose_spec XP10_28) P10_29 (Classical.choose_spec XP10_29) x0 x3 x3n x3c x12 x12n x12c x13 x14 M
theorem QP10_28_eq (L : Rec) (b10_16 c10_29 : ACode) (P10_16 : Rec → (Option Addr) → (Option Addr) → Nat → Nat → (Option Addr) → Nat → Nat → Int → Int → AMem → Res) (hP10_16 : Eq P10_16 fun L x0 x3 x3n x3c x12 x12n x12c x13 x14 M => L.loop b10_16 (blockK 0 (seqK (code L (.clear zl17 c10_29) (retK [.tmp 2])) (retK [.tmp 2]))) (s10_16 x0 x3 x3n x3c x12 x12n x12c x13 x14 M) M) (P10_28 : Rec → (Option Addr) → (Option Addr) → Nat → Nat → (Option Addr) → Nat → Nat → Int → Int → AMem → Res) (hP10_28 : Eq P10_28 fun L x0 x3 x3n x3c x12 x12n x12c x13 x14 M => code L (.ops o10_28) (postK zl16 (loopK L b10_16 (blockK 0 (seqK (code L (.clear zl17 c10_29) (retK [.tmp 2])) (retK [.tmp 2]))))) (s10_28 x0 x3 x3n x3c x12 x12n x12c x13 x14 M) M) (x0 : Option Addr) (x3 : Option Addr) (x3n : Nat) (x3c : Nat) (x12 : Option Addr) (x12n : Nat) (x12c : Nat) (x13 : Int) (x14 : Int) (M : AMem) : P10_28 L x0 x3 x3n x3c x12 x12n x12c x13 x14 M =
  P10_16 L x0 x3 x3n x3c x12 x12n x12c x13 (IntKind.wrap .i64 (x14 + 1)) M := by
  subst hP10_16; subst hP10_28; kernel_rfl
theorem P10_28_eq (L : Rec) (x0 : Option Addr) (x3 : Option Addr) (x3n : Nat) (x3c : Nat) (x12 : Option Addr) (x12n : Nat) (x12c : Nat) (x13 : Int) (x14 : Int) (M : AMem) : P10_28 L x0 x3 x3n x3c x12 x12n x12c x13 x14 M =
  P10_16 L x0 x3 x3n x3c x12 x12n x12c x13 (IntKind.wrap .i64 (x14 + 1)) M := QP10_28_eq L b10_16 c10_29 P10_16 (Classical.choose_spec XP10_16) P10_28 (Classical.choose_spec XP10_28) x0 x3 x3n x3c x12 x12n x12c x13 x14 M
theorem QP10_29_eq (L : Rec) (P10_29 : Rec → (Option Addr) → Nat → Nat → AMem → Res) (hP10_29 : Eq P10_29 fun L x3 x3n x3c M => code L (.seq (.ops o10_30) (.seq (.ops o10_32) (.ret))) (retK [.tmp 2]) (s10_29 x3 x3n x3c M) M) (x3 : Option Addr) (x3n : Nat) (x3c : Nat) (M : AMem) : P10_29 L x3 x3n x3c M =
  (Option.bind (L.call 16 [.slice x3 x3n x3c] M) fun r_1 =>
    (Option.bind (tupOf? 0 r_1.1) fun cs_2 =>
    (Option.bind (L.call 17 [.slice x3 x3n x3c] r_1.2) fun r_3 =>
    (Option.bind (sliceOf? (some r_3.1)) fun s_4 =>
    some (.slice s_4.1 s_4.2.1 s_4.2.2, r_3.2))))) := by
  subst hP10_29; kernel_rfl
theorem P10_29_eq (L : Rec) (x3 : Option Addr) (x3n : Nat) (x3c : Nat) (M : AMem) : P10_29 L x3 x3n x3c M =
  (Option.bind (L.call 16 [.slice x3 x3n x3c] M) fun r_1 =>
    (Option.bind (tupOf? 0 r_1.1) fun cs_2 =>
    (Option.bind (L.call 17 [.slice x3 x3n x3c] r_1.2) fun r_3 =>
    (Option.bind (sliceOf? (some r_3.1)) fun s_4 =>
    some (.slice s_4.1 s_4.2.1 s_4.2.2, r_3.2))))) := QP10_29_eq L P10_29 (Classical.choose_spec XP10_29) x3 x3n x3c M
theorem QE10 (L : Rec) (b10_16 c10_29 : ACode) (P10_16 : Rec → (Option Addr) → (Option Addr) → Nat → Nat → (Option Addr) → Nat → Nat → Int → Int → AMem → Res) (hP10_16 : Eq P10_16 fun L x0 x3 x3n x3c x12 x12n x12c x13 x14 M => L.loop b10_16 (blockK 0 (seqK (code L (.clear zl17 c10_29) (retK [.tmp 2])) (retK [.tmp 2]))) (s10_16 x0 x3 x3n x3c x12 x12n x12c x13 x14 M) M) (x0 : Option Addr) (M : AMem) : enterF L ⟨33, [.tmp 2], .seq (.ops o10_1) (.seq (.seq (.ops o10_4) (.cond (.tmp 8) (.seq (.ops o10_7) (.ret)) (.skip))) (.seq (.ops o10_11) (.seq (.seq (.ops o10_14) (.block 0 (.clear zl16 (.loop b10_16)))) (.clear zl17 c10_29))))⟩ [.pointer x0] M =
  (Option.bind (L.call 13 [.pointer x0] M) fun r_1 =>
    (Option.bind (boolOf? (some r_1.1)) fun q_2 =>
    (if (!q_2) = true
    then some (.slice none 0 0, r_1.2)
    else (match x0 with
      | some a_3 => (Option.bind (sliceOf? (AMem.ld r_1.2 a_3.block (a_3.off + 4))) fun s_4 =>
        P10_16 L x0 none 0 0 s_4.1 s_4.2.1 s_4.2.2 (Int.ofNat s_4.2.1) 0 r_1.2)
      | none => none)))) := by
  subst hP10_16; kernel_rfl
theorem E10 (L : Rec) (x0 : Option Addr) (M : AMem) : enterF L a10 [.pointer x0] M =
  (Option.bind (L.call 13 [.pointer x0] M) fun r_1 =>
    (Option.bind (boolOf? (some r_1.1)) fun q_2 =>
    (if (!q_2) = true
    then some (.slice none 0 0, r_1.2)
    else (match x0 with
      | some a_3 => (Option.bind (sliceOf? (AMem.ld r_1.2 a_3.block (a_3.off + 4))) fun s_4 =>
        P10_16 L x0 none 0 0 s_4.1 s_4.2.1 s_4.2.2 (Int.ofNat s_4.2.1) 0 r_1.2)
      | none => none)))) := QE10 L b10_16 c10_29 P10_16 (Classical.choose_spec XP10_16) x0 M
/-! #### combine.Buffer.Take -/
noncomputable def k8_16 (L : Rec) : KT := blockK 0 (seqK (code L (.clear zl15 c8_41) (retK [.tmp 4])) (retK [.tmp 4]))
def s8_16 (x0 : Option Addr) (x1 : Int) (x5 : Option Addr) (x5n : Nat) (x5c : Nat) (x6 : Option Addr) (x6n : Nat) (x6c : Nat) (x15 : Option Addr) (x15n : Nat) (x15c : Nat) (x16 : Int) (x17 : Int) (M : AMem) : List Value := [.pointer x0, .int .i64 x1, junk, junk, junk, .slice x5 x5n x5c, .slice x6 x6n x6c, junk, junk, junk, junk, junk, junk, junk, junk, .slice x15 x15n x15c, .int .i64 x16, .int .i64 x17, junk, junk, junk, junk, junk, junk, junk, junk, junk, junk, junk, junk, junk, junk, junk, junk, junk, junk, junk, junk, junk, junk, junk, junk, junk, junk, junk, junk, junk, junk, junk, junk, junk, junk, junk, junk, junk, junk, junk, junk]
theorem XP8_16 : ∃ P : Rec → (Option Addr) → Int → (Option Addr) → Nat → Nat → (Option Addr) → Nat → Nat → (Option Addr) → Nat → Nat → Int → Int → AMem → Res, P = fun (L : Rec) (x0 : Option Addr) (x1 : Int) (x5 : Option Addr) (x5n : Nat) (x5c : Nat) (x6 : Option Addr) (x6n : Nat) (x6c : Nat) (x15 : Option Addr) (x15n : Nat) (x15c : Nat) (x16 : Int) (x17 : Int) (M : AMem) => L.loop b8_16 (k8_16 L) (s8_16 x0 x1 x5 x5n x5c x6 x6n x6c x15 x15n x15c x16 x17 M) M := ⟨_, rfl⟩
noncomputable def P8_16 : Rec → (Option Addr) → Int → (Option Addr) → Nat → Nat → (Option Addr) → Nat → Nat → (Option Addr) → Nat → Nat → Int → Int → AMem → Res := Classical.choose XP8_16
noncomputable def k8_40 (L : Rec) : KT := postK zl14 (loopK L b8_16 (blockK 0 (seqK (code L (.clear zl15 c8_41) (retK [.tmp 4])) (retK [.tmp 4]))))
def s8_40 (x0 : Option Addr) (x1 : Int) (x5 : Option Addr) (x5n : Nat) (x5c : Nat) (x6 : Option Addr) (x6n : Nat) (x6c : Nat) (x15 : Option Addr) (x15n : Nat) (x15c : Nat) (x16 : Int) (x17 : Int) (M : AMem) : List Value := [.pointer x0, .int .i64 x1, junk, junk, junk, .slice x5 x5n x5c, .slice x6 x6n x6c, junk, junk, junk, junk, junk, junk, junk, junk, .slice x15 x15n x15c, .int .i64 x16, .int .i64 x17, junk, junk, junk, junk, junk, junk, junk, junk, junk, junk, junk, junk, junk, junk, junk, junk, junk, junk, junk, junk, junk, junk, junk, junk, junk, junk, junk, junk, junk, junk, junk, junk, junk, junk, junk, junk, junk, junk, junk, junk]
theorem XP8_40 : ∃ P : Rec → (Option Addr) → Int → (Option Addr) → Nat → Nat → (Option Addr) → Nat → Nat → (Option Addr) → Nat → Nat → Int → Int → AMem → Res, P = fun (L : Rec) (x0 : Option Addr) (x1 : Int) (x5 : Option Addr) (x5n : Nat) (x5c : Nat) (x6 : Option Addr) (x6n : Nat) (x6c : Nat) (x15 : Option Addr) (x15n : Nat) (x15c : Nat) (x16 : Int) (x17 : Int) (M : AMem) => code L c8_40 (k8_40 L) (s8_40 x0 x1 x5 x5n x5c x6 x6n x6c x15 x15n x15c x16 x17 M) M := ⟨_, rfl⟩
noncomputable def P8_40 : Rec → (Option Addr) → Int → (Option Addr) → Nat → Nat → (Option Addr) → Nat → Nat → (Option Addr) → Nat → Nat → Int → Int → AMem → Res := Classical.choose XP8_40
noncomputable def k8_41 (L : Rec) : KT := retK [.tmp 4]
def s8_41 (x0 : Option Addr) (x5 : Option Addr) (x5n : Nat) (x5c : Nat) (x6 : Option Addr) (x6n : Nat) (x6c : Nat) (M : AMem) : List Value := [.pointer x0, junk, junk, junk, junk, .slice x5 x5n x5c, .slice x6 x6n x6c, junk, junk, junk, junk, junk, junk, junk, junk, junk, junk, junk, junk, junk, junk, junk, junk, junk, junk, junk, junk, junk, junk, junk, junk, junk, junk, junk, junk, junk, junk, junk, junk, junk, junk, junk, junk, junk, junk, junk, junk, junk, junk, junk, junk, junk, junk, junk, junk, junk, junk, junk]
theorem XP8_41 : ∃ P : Rec → (Option Addr) → (Option Addr) → Nat → Nat → (Option Addr) → Nat → Nat → AMem → Res, P = fun (L : Rec) (x0 : Option Addr) (x5 : Option Addr) (x5n : Nat) (x5c : Nat) (x6 : Option Addr) (x6n : Nat) (x6c : Nat) (M : AMem) => code L c8_41 (k8_41 L) (s8_41 x0 x5 x5n x5c x6 x6n x6c M) M := ⟨_, rfl⟩
noncomputable def P8_41 : Rec → (Option Addr) → (Option Addr) → Nat → Nat → (Option Addr) → Nat → Nat → AMem → Res := Classical.choose XP8_41
theorem QP8_16_eq (L : Rec) (b8_16 c8_40 c8_41 : ACode) (hb : ∀ K t A, L.loop b8_16 K t A = code L (.post (.seq (.ops o8_18) (.seq (.cond (.tmp 18) (.skip) (.exit 0)) (.seq (.block 1 (.seq (.ops o8_26) (.seq (.seq (.draw [] 0 o8_29 []) (.cond (.tmp 29) (.seq (.ops o8_32) (.seq (.draw [] 0 o8_34 []) (.exit 1))) (.skip))) (.seq (.draw [] 0 o8_38 []) (.ops o8_39))))) (.clear zl14 c8_40)))) zl14) (loopK L b8_16 K) t A) (P8_16 : Rec → (Option Addr) → Int → (Option Addr) → Nat → Nat → (Option Addr) → Nat → Nat → (Option Addr) → Nat → Nat → Int → Int → AMem → Res) (hP8_16 : Eq P8_16 fun L x0 x1 x5 x5n x5c x6 x6n x6c x15 x15n x15c x16 x17 M => L.loop b8_16 (blockK 0 (seqK (code L (.clear zl15 c8_41) (retK [.tmp 4])) (retK [.tmp 4]))) (s8_16 x0 x1 x5 x5n x5c x6 x6n x6c x15 x15n x15c x16 x17 M) M) (P8_40 : Rec → (Option Addr) → Int → (Option Addr) → Nat → Nat → (Option Addr) → Nat → Nat → (Option Addr) → Nat → Nat → Int → Int → AMem → Res) (hP8_40 : Eq P8_40 fun L x0 x1 x5 x5n x5c x6 x6n x6c x15 x15n x15c x16 x17 M => code L c8_40 (postK zl14 (loopK L b8_16 (blockK 0 (seqK (code L (.clear zl15 c8_41) (retK [.tmp 4])) (retK [.tmp 4]))))) (s8_40 x0 x1 x5 x5n x5c x6 x6n x6c x15 x15n x15c x16 x17 M) M) (P8_41 : Rec → (Option Addr) → (Option Addr) → Nat → Nat → (Option Addr) → Nat → Nat → AMem → Res) (hP8_41 : Eq P8_41 fun L x0 x5 x5n x5c x6 x6n x6c M => code L c8_41 (retK [.tmp 4]) (s8_41 x0 x5 x5n x5c x6 x6n x6c M) M) (x0 : Option Addr) (x1 : Int) (x5 : Option Addr) (x5n : Nat) (x5c : Nat) (x6 : Option Addr) (x6n : Nat) (x6c : Nat) (x15 : Option Addr) (x15n : Nat) (x15c : Nat) (x16 : Int) (x17 : Int) (M : AMem) : P8_16 L x0 x1 x5 x5n x5c x6 x6n x6c x15 x15n x15c x16 x17 M =
  (if (decide (x17 < x16)) = true
    then (match x15 with
      | some a_1 => (if (0 : Int) ≤ x17 ∧ x17 < (Int.ofNat x15n)
        then (Option.bind (intOf? .i64 (AMem.ld M a_1.block (a_1.off + ((Int.toNat x17) * 4)))) fun x_2 =>
          (Option.bind (intOf? .u64 (AMem.ld M a_1.block ((a_1.off + ((Int.toNat x17) * 4)) + 1))) fun x_3 =>
          (Option.bind (intOf? .u64 (AMem.ld M a_1.block ((a_1.off + ((Int.toNat x17) * 4)) + 2))) fun x_4 =>
          (Option.bind (intOf? .u64 (AMem.ld M a_1.block ((a_1.off + ((Int.toNat x17) * 4)) + 3))) fun x_5 =>
          (Option.bind (AMem.wr (M ++ [AObj.cells [.int .i64 0, .int .u64 0, .int .u64 0, .int .u64 0] ⟨false, 0⟩]) (List.length M) 0 [.int .i64 x_2, .int .u64 x_3, .int .u64 x_4, .int .u64 x_5]) fun M_6 =>
          (match x0 with
          | some a_7 => (Option.bind (intOf? .i64 (AMem.ld M_6 a_7.block a_7.off)) fun x_8 =>
            (Option.bind (intOf? .i64 (AMem.ld M_6 a_7.block (a_7.off + 1))) fun x_9 =>
            (Option.bind (intOf? .i64 (AMem.ld M_6 (List.length M) 0)) fun x_10 =>
            (Option.bind (L.call 14 [.agg #[.int .i64 x_8, .int .i64 x_9], .int .i64 x_10] []) fun r_11 =>
            (Option.bind (intOf? .i64 (some r_11.1)) fun x_12 =>
            (if (x_12 == x1) = true
            then (Option.bind (intOf? .i64 (AMem.ld M_6 (List.length M) 0)) fun x_13 =>
              (Option.bind (intOf? .u64 (AMem.ld M_6 (List.length M) 1)) fun x_14 =>
              (Option.bind (intOf? .u64 (AMem.ld M_6 (List.length M) 2)) fun x_15 =>
              (Option.bind (intOf? .u64 (AMem.ld M_6 (List.length M) 3)) fun x_16 =>
              (Option.bind (rowOf (M_6 ++ [AObj.cells [.int .i64 x_13, .int .u64 x_14, .int .u64 x_15, .int .u64 x_16] ⟨false, 0⟩]) 4 (.slice (some ⟨(List.length M_6), 0, none⟩) 1 4)) fun row_17 =>
              (appendK 4 32 x5 x5n x5c 1 row_17 (M_6 ++ [AObj.cells [.int .i64 x_13, .int .u64 x_14, .int .u64 x_15, .int .u64 x_16] ⟨false, 0⟩]) fun p_18 n_19 c_20 M_21 =>
              (match x0 with
              | some a_22 => (Option.bind (anyOf? (AMem.ld M_21 a_22.block (a_22.off + 3))) fun u_23 =>
                (Option.bind (intOf? .i64 (AMem.ld M_21 (List.length M) 0)) fun x_24 =>
                (Option.bind (mapOf? (some u_23)) fun r_25 =>
                (Option.bind (AMem.mp M_21 .i64 .i64 r_25) fun es_26 =>
                P8_40 L x0 x1 p_18 n_19 c_20 x6 x6n x6c x15 x15n x15c x16 x17 (AMem.mput M_21 .i64 .i64 r_25 (mdel x_24 es_26))))))
              | none => none)))))))
            else (match x0 with
              | some a_27 => (Option.bind (anyOf? (AMem.ld M_6 a_27.block (a_27.off + 3))) fun u_28 =>
                (Option.bind (intOf? .i64 (AMem.ld M_6 (List.length M) 0)) fun x_29 =>
                (Option.bind (mapOf? (some u_28)) fun r_30 =>
                (Option.bind (AMem.mp M_6 .i64 .i64 r_30) fun es_31 =>
                (Option.bind (intOf? .i64 (AMem.ld (AMem.mput M_6 .i64 .i64 r_30 (mset x_29 (Int.ofNat x6n) es_31)) (List.length M) 0)) fun x_32 =>
                (Option.bind (intOf? .u64 (AMem.ld (AMem.mput M_6 .i64 .i64 r_30 (mset x_29 (Int.ofNat x6n) es_31)) (List.length M) 1)) fun x_33 =>
                (Option.bind (intOf? .u64 (AMem.ld (AMem.mput M_6 .i64 .i64 r_30 (mset x_29 (Int.ofNat x6n) es_31)) (List.length M) 2)) fun x_34 =>
                (Option.bind (intOf? .u64 (AMem.ld (AMem.mput M_6 .i64 .i64 r_30 (mset x_29 (Int.ofNat x6n) es_31)) (List.length M) 3)) fun x_35 =>
                (Option.bind (rowOf ((AMem.mput M_6 .i64 .i64 r_30 (mset x_29 (Int.ofNat x6n) es_31)) ++ [AObj.cells [.int .i64 x_32, .int .u64 x_33, .int .u64 x_34, .int .u64 x_35] ⟨false, 0⟩]) 4 (.slice (some ⟨(List.length (AMem.mput M_6 .i64 .i64 r_30 (mset x_29 (Int.ofNat x6n) es_31))), 0, none⟩) 1 4)) fun row_36 =>
                (appendK 4 32 x6 x6n x6c 1 row_36 ((AMem.mput M_6 .i64 .i64 r_30 (mset x_29 (Int.ofNat x6n) es_31)) ++ [AObj.cells [.int .i64 x_32, .int .u64 x_33, .int .u64 x_34, .int .u64 x_35] ⟨false, 0⟩]) fun p_37 n_38 c_39 M_40 =>
                P8_40 L x0 x1 x5 x5n x5c p_37 n_38 c_39 x15 x15n x15c x16 x17 M_40))))))))))
              | none => none)))))))
          | none => none))))))
        else none)
      | none => none)
    else P8_41 L x0 x5 x5n x5c x6 x6n x6c M) := by
  subst hP8_16; subst hP8_40; subst hP8_41; exact (hb (blockK 0 (seqK (code L (.clear zl15 c8_41) (retK [.tmp 4])) (retK [.tmp 4]))) (s8_16 x0 x1 x5 x5n x5c x6 x6n x6c x15 x15n x15c x16 x17 M) M).trans (by kernel_rfl)
theorem P8_16_eq (L : Rec) (hL : ∀ b K t A, L.loop b K t A = code L b (loopK L b K) t A) (x0 : Option Addr) (x1 : Int) (x5 : Option Addr) (x5n : Nat) (x5c : Nat) (x6 : Option Addr) (x6n : Nat) (x6c : Nat) (x15 : Option Addr) (x15n : Nat) (x15c : Nat) (x16 : Int) (x17 : Int) (M : AMem) : P8_16 L x0 x1 x5 x5n x5c x6 x6n x6c x15 x15n x15c x16 x17 M =
  (if (decide (x17 < x16)) = true
    then (match x15 with
      | some a_1 => (if (0 : Int) ≤ x17 ∧ x17 < (Int.ofNat x15n)
        then (Option.bind (intOf? .i64 (AMem.ld M a_1.block (a_1.off + ((Int.toNat x17) * 4)))) fun x_2 =>
          (Option.bind (intOf? .u64 (AMem.ld M a_1.block ((a_1.off + ((Int.toNat x17) * 4)) + 1))) fun x_3 =>
          (Option.bind (intOf? .u64 (AMem.ld M a_1.block ((a_1.off + ((Int.toNat x17) * 4)) + 2))) fun x_4 =>
          (Option.bind (intOf? .u64 (AMem.ld M a_1.block ((a_1.off + ((Int.toNat x17) * 4)) + 3))) fun x_5 =>
          (Option.bind (AMem.wr (M ++ [AObj.cells [.int .i64 0, .int .u64 0, .int .u64 0, .int .u64 0] ⟨false, 0⟩]) (List.length M) 0 [.int .i64 x_2, .int .u64 x_3, .int .u64 x_4, .int .u64 x_5]) fun M_6 =>
          (match x0 with
          | some a_7 => (Option.bind (intOf? .i64 (AMem.ld M_6 a_7.block a_7.off)) fun x_8 =>
            (Option.bind (intOf? .i64 (AMem.ld M_6 a_7.block (a_7.off + 1))) fun x_9 =>
            (Option.bind (intOf? .i64 (AMem.ld M_6 (List.length M) 0)) fun x_10 =>
            (Option.bind (L.call 14 [.agg #[.int .i64 x_8, .int .i64 x_9], .int .i64 x_10] []) fun r_11 =>
            (Option.bind (intOf? .i64 (some r_11.1)) fun x_12 =>
            (if (x_12 == x1) = true
            then (Option.bind (intOf? .i64 (AMem.ld M_6 (List.length M) 0)) fun x_13 =>
              (Option.bind (intOf? .u64 (AMem.ld M_6 (List.length M) 1)) fun x_14 =>
              (Option.bind (intOf? .u64 (AMem.ld M_6 (List.length M) 2)) fun x_15 =>
              (Option.bind (intOf? .u64 (AMem.ld M_6 (List.length M) 3)) fun x_16 =>
              (Option.bind (rowOf (M_6 ++ [AObj.cells [.int .i64 x_13, .int .u64 x_14, .int .u64 x_15, .int .u64 x_16] ⟨false, 0⟩]) 4 (.slice (some ⟨(List.length M_6), 0, none⟩) 1 4)) fun row_17 =>
              (appendK 4 32 x5 x5n x5c 1 row_17 (M_6 ++ [AObj.cells [.int .i64 x_13, .int .u64 x_14, .int .u64 x_15, .int .u64 x_16] ⟨false, 0⟩]) fun p_18 n_19 c_20 M_21 =>
              (match x0 with
              | some a_22 => (Option.bind (anyOf? (AMem.ld M_21 a_22.block (a_22.off + 3))) fun u_23 =>
                (Option.bind (intOf? .i64 (AMem.ld M_21 (List.length M) 0)) fun x_24 =>
                (Option.bind (mapOf? (some u_23)) fun r_25 =>
                (Option.bind (AMem.mp M_21 .i64 .i64 r_25) fun es_26 =>
                P8_40 L x0 x1 p_18 n_19 c_20 x6 x6n x6c x15 x15n x15c x16 x17 (AMem.mput M_21 .i64 .i64 r_25 (mdel x_24 es_26))))))
              | none => none)))))))
            else (match x0 with
              | some a_27 => (Option.bind (anyOf? (AMem.ld M_6 a_27.block (a_27.off + 3))) fun u_28 =>
                (Option.bind (intOf? .i64 (AMem.ld M_6 (List.length M) 0)) fun x_29 =>
                (Option.bind (mapOf? (some u_28)) fun r_30 =>
                (Option.bind (AMem.mp M_6 .i64 .i64 r_30) fun es_31 =>
                (Option.bind (intOf? .i64 (AMem.ld (AMem.mput M_6 .i64 .i64 r_30 (mset x_29 (Int.ofNat x6n) es_31)) (List.length M) 0)) fun x_32 =>
                (Option.bind (intOf? .u64 (AMem.ld (AMem.mput M_6 .i64 .i64 r_30 (mset x_29 (Int.ofNat x6n) es_31)) (List.length M) 1)) fun x_33 =>
                (Option.bind (intOf? .u64 (AMem.ld (AMem.mput M_6 .i64 .i64 r_30 (mset x_29 (Int.ofNat x6n) es_31)) (List.length M) 2)) fun x_34 =>
                (Option.bind (intOf? .u64 (AMem.ld (AMem.mput M_6 .i64 .i64 r_30 (mset x_29 (Int.ofNat x6n) es_31)) (List.length M) 3)) fun x_35 =>
                (Option.bind (rowOf ((AMem.mput M_6 .i64 .i64 r_30 (mset x_29 (Int.ofNat x6n) es_31)) ++ [AObj.cells [.int .i64 x_32, .int .u64 x_33, .int .u64 x_34, .int .u64 x_35] ⟨false, 0⟩]) 4 (.slice (some ⟨(List.length (AMem.mput M_6 .i64 .i64 r_30 (mset x_29 (Int.ofNat x6n) es_31))), 0, none⟩) 1 4)) fun row_36 =>
                (appendK 4 32 x6 x6n x6c 1 row_36 ((AMem.mput M_6 .i64 .i64 r_30 (mset x_29 (Int.ofNat x6n) es_31)) ++ [AObj.cells [.int .i64 x_32, .int .u64 x_33, .int .u64 x_34, .int .u64 x_35] ⟨false, 0⟩]) fun p_37 n_38 c_39 M_40 =>
                P8_40 L x0 x1 x5 x5n x5c p_37 n_38 c_39 x15 x15n x15c x16 x17 M_40))))))))))
              | none => none)))))))
          | none => none))))))
        else none)
      | none => none)
    else P8_41 L x0 x5 x5n x5c x6 x6n x6c M) := QP8_16_eq L b8_16 c8_40 c8_41 (hL b8_16) P8_16 (Classical.choose_spec XP8_16) P8_40 (Classical.choose_spec XP8_40) P8_41 (Classical.choose_spec XP8_41) x0 x1 x5 x5n x5c x6 x6n x6c x15 x15n x15c x16 x17 M
theorem QP8_40_eq (L : Rec) (b8_16 c8_41 : ACode) (P8_16 : Rec → (Option Addr) → Int → (Option Addr) → Nat → Nat → (Option Addr) → Nat → Nat → (Option Addr) → Nat → Nat → Int → Int → AMem → Res) (hP8_16 : Eq P8_16 fun L x0 x1 x5 x5n x5c x6 x6n x6c x15 x15n x15c x16 x17 M => L.loop b8_16 (blockK 0 (seqK (code L (.clear zl15 c8_41) (retK [.tmp 4])) (retK [.tmp 4]))) (s8_16 x0 x1 x5 x5n x5c x6 x6n x6c x15 x15n x15c x16 x17 M) M) (P8_40 : Rec → (Option Addr) → Int → (Option Addr) → Nat → Nat → (Option Addr) → Nat → Nat → (Option Addr) → Nat → Nat → Int → Int → AMem → Res) (hP8_40 : Eq P8_40 fun L x0 x1 x5 x5n x5c x6 x6n x6c x15 x15n x15c x16 x17 M => code L (.ops o8_40) (postK zl14 (loopK L b8_16 (blockK 0 (seqK (code L (.clear zl15 c8_41) (retK [.tmp 4])) (retK [.tmp 4]))))) (s8_40 x0 x1 x5 x5n x5c x6 x6n x6c x15 x15n x15c x16 x17 M) M) (x0 : Option Addr) (x1 : Int) (x5 : Option Addr) (x5n : Nat) (x5c : Nat) (x6 : Option Addr) (x6n : Nat) (x6c : Nat) (x15 : Option Addr) (x15n : Nat) (x15c : Nat) (x16 : Int) (x17 : Int) (M : AMem) : P8_40 L x0 x1 x5 x5n x5c x6 x6n x6c x15 x15n x15c x16 x17 M =
  P8_16 L x0 x1 x5 x5n x5c x6 x6n x6c x15 x15n x15c x16 (IntKind.wrap .i64 (x17 + 1)) M := by
  subst hP8_16; subst hP8_40; kernel_rfl
theorem P8_40_eq (L : Rec) (x0 : Option Addr) (x1 : Int) (x5 : Option Addr) (x5n : Nat) (x5c : Nat) (x6 : Option Addr) (x6n : Nat) (x6c : Nat) (x15 : Option Addr) (x15n : Nat) (x15c : Nat) (x16 : Int) (x17 : Int) (M : AMem) : P8_40 L x0 x1 x5 x5n x5c x6 x6n x6c x15 x15n x15c x16 x17 M =
  P8_16 L x0 x1 x5 x5n x5c x6 x6n x6c x15 x15n x15c x16 (IntKind.wrap .i64 (x17 + 1)) M := QP8_40_eq L b8_16 c8_41 P8_16 (Classical.choose_spec XP8_16) P8_40 (Classical.choose_spec XP8_40) x0 x1 x5 x5n x5c x6 x6n x6c x15 x15n x15c x16 x17 M
theorem QP8_41_eq (L : Rec) (P8_41 : Rec → (Option Addr) → (Option Addr) → Nat → Nat → (Option Addr) → Nat → Nat → AMem → Res) (hP8_41 : Eq P8_41 fun L x0 x5 x5n x5c x6 x6n x6c M => code L (.seq (.ops o8_42) (.seq (.ops o8_44) (.ret))) (retK [.tmp 4]) (s8_41 x0 x5 x5n x5c x6 x6n x6c M) M) (x0 : Option Addr) (x5 : Option Addr) (x5n : Nat) (x5c : Nat) (x6 : Option Addr) (x6n : Nat) (x6c : Nat) (M : AMem) : P8_41 L x0 x5 x5n x5c x6 x6n x6c M =
  (match x0 with
    | some a_1 => (Option.bind (AMem.wr M a_1.block (a_1.off + 4) [.slice x6 x6n x6c]) fun M_2 =>
      some (.slice x5 x5n x5c, M_2))
    | none => none) := by
  subst hP8_41; kernel_rfl
theorem P8_41_eq (L : Rec) (x0 : Option Addr) (x5 : Option Addr) (x5n : Nat) (x5c : Nat) (x6 : Option Addr) (x6n : Nat) (x6c : Nat) (M : AMem) : P8_41 L x0 x5 x5n x5c x6 x6n x6c M =
  (match x0 with
    | some a_1 => (Option.bind (AMem.wr M a_1.block (a_1.off + 4) [.slice x6 x6n x6c]) fun M_2 =>
      some (.slice x5 x5n x5c, M_2))
    | none => none) := QP8_41_eq L P8_41 (Classical.choose_spec XP8_41) x0 x5 x5n x5c x6 x6n x6c M
theorem QE8 (L : Rec) (b8_16 c8_41 : ACode) (P8_16 : Rec → (Option Addr) → Int → (Option Addr) → Nat → Nat → (Option Addr) → Nat → Nat → (Option Addr) → Nat → Nat → Int → Int → AMem → Res) (hP8_16 : Eq P8_16 fun L x0 x1 x5 x5n x5c x6 x6n x6c x15 x15n x15c x16 x17 M => L.loop b8_16 (blockK 0 (seqK (code L (.clear zl15 c8_41) (retK [.tmp 4])) (retK [.tmp 4]))) (s8_16 x0 x1 x5 x5n x5c x6 x6n x6c x15 x15n x15c x16 x17 M) M) (x0 : Option Addr) (x1 : Int) (M : AMem) : enterF L ⟨58, [.tmp 4], .seq (.ops o8_1) (.seq (.seq (.ops o8_4) (.cond (.tmp 11) (.seq (.ops o8_7) (.ret)) (.skip))) (.seq (.ops o8_11) (.seq (.seq (.ops o8_14) (.block 0 (.clear zl14 (.loop b8_16)))) (.clear zl15 c8_41))))⟩ [.pointer x0, .int .i64 x1] M =
  (Option.bind (L.call 13 [.pointer x0] M) fun r_1 =>
    (Option.bind (boolOf? (some r_1.1)) fun q_2 =>
    (if (!q_2) = true
    then some (.slice none 0 0, r_1.2)
    else (match x0 with
      | some a_3 => (Option.bind (sliceOf? (AMem.ld r_1.2 a_3.block (a_3.off + 4))) fun s_4 =>
        P8_16 L x0 x1 none 0 0 none 0 0 s_4.1 s_4.2.1 s_4.2.2 (Int.ofNat s_4.2.1) 0 r_1.2)
      | none => none)))) := by
  subst hP8_16; kernel_rfl
theorem E8 (L : Rec) (x0 : Option Addr) (x1 : Int) (M : AMem) : enterF L a8 [.pointer x0, .int .i64 x1] M =
  (Option.bind (L.call 13 [.pointer x0] M) fun r_1 =>
    (Option.bind (boolOf? (some r_1.1)) fun q_2 =>
    (if (!q_2) = true
    then some (.slice none 0 0, r_1.2)
    else (match x0 with
      | some a_3 => (Option.bind (sliceOf? (AMem.ld r_1.2 a_3.block (a_3.off + 4))) fun s_4 =>
        P8_16 L x0 x1 none 0 0 none 0 0 s_4.1 s_4.2.1 s_4.2.2 (Int.ofNat s_4.2.1) 0 r_1.2)
      | none => none)))) := QE8 L b8_16 c8_41 P8_16 (Classical.choose_spec XP8_16) x0 x1 M
end Go.Proofs.Ytjcmnchkgnmooaa
