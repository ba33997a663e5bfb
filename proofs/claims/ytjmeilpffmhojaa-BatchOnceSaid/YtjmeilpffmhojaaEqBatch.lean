/- What the pieces of some functions come to. -/
import Derived.Test.YtjmeilpffmhojaaCode
set_option linter.unusedVariables false
set_option maxRecDepth 100000
namespace Go.Proofs.Ytjmeilpffmhojaa
open Go Go.Ax
/-! #### batch.New -/
theorem GE16 (L : Rec) (x0 : Int) (x1 : Int) (M : AMem) : enterF L ⟨23, [.tmp 4], .seq (.ops o16_1) (.seq (.seq (.ops o16_4) (.cond (.tmp 18) (.seq (.ops o16_7) (.ret)) (.skip))) (.seq (.ops o16_11) (.ret)))⟩ [.int .i64 x0, .int .i64 x1] M =
  (if (decide (x0 < 0)) = true
    then some (.pointer none, M)
    else (if (decide (x0 > 1048576)) = true
      then some (.pointer none, M)
      else (if (decide (x1 < 1)) = true
        then some (.pointer none, M)
        else (if (decide (x1 > 65536)) = true
          then some (.pointer none, M)
          else some (.pointer (some ⟨(List.length M), 0, none⟩), (M ++ [AObj.cells [.int .i64 x0, .int .i64 x1, .func (.func 55) #[] #[], .bool true, .int .u64 0, .int .i64 0, .int .i64 0, .int .i64 0] ⟨false, 0⟩])))))) := by kernel_rfl
theorem E16 (L : Rec) (x0 : Int) (x1 : Int) (M : AMem) : enterF L a16 [.int .i64 x0, .int .i64 x1] M =
  (if (decide (x0 < 0)) = true
    then some (.pointer none, M)
    else (if (decide (x0 > 1048576)) = true
      then some (.pointer none, M)
      else (if (decide (x1 < 1)) = true
        then some (.pointer none, M)
        else (if (decide (x1 > 65536)) = true
          then some (.pointer none, M)
          else some (.pointer (some ⟨(List.length M), 0, none⟩), (M ++ [AObj.cells [.int .i64 x0, .int .i64 x1, .func (.func 55) #[] #[], .bool true, .int .u64 0, .int .i64 0, .int .i64 0, .int .i64 0] ⟨false, 0⟩])))))) := Eq.mp (by kernel_rfl) (GE16 L  x0 x1 M)
/-! #### batch.read -/
theorem GE55 (L : Rec) (x0 : Option Addr) (x1 : Option Addr) (M : AMem) : enterF L ⟨28, [], .seq (.ops o55_1) (.seq (.ops o55_3) (.seq (.draw [] 0 o55_5 []) (.cond (.tmp 24) (.ops o55_7) (.skip))))⟩ [.pointer x0, .pointer x1] M =
  (Option.bind (L.call 22 [.pointer x1, .int .i64 0] M) fun r_1 =>
    (Option.bind (tupOf? 2 r_1.1) fun cs_2 =>
    (Option.bind (cs_2[0]?) fun u_3 =>
    (Option.bind (intOf? .u64 (some u_3)) fun x_4 =>
    (Option.bind (cs_2[1]?) fun u_5 =>
    (Option.bind (boolOf? (some u_5)) fun q_6 =>
    (match x0 with
    | some a_7 => (Option.bind (AMem.wr r_1.2 a_7.block (a_7.off + 4) [.int .u64 x_4]) fun M_8 =>
      (match x0 with
      | some a_9 => (Option.bind (AMem.wr M_8 a_9.block (a_9.off + 2) [.func (.func 74) #[] #[]]) fun M_10 =>
        (match x0 with
        | some a_11 => (Option.bind (intOf? .u64 (AMem.ld M_10 a_11.block (a_11.off + 4))) fun x_12 =>
          (match x0 with
          | some a_13 => (Option.bind (intOf? .i64 (AMem.ld M_10 a_13.block a_13.off)) fun x_14 =>
            (if (decide (x_12 ≥ (IntKind.wrap .u64 x_14))) = true
            then (match x0 with
              | some a_15 => (Option.bind (AMem.wr M_10 a_15.block (a_15.off + 2) [.nilFunc]) fun M_16 =>
                some (.tuple #[], M_16))
              | none => none)
            else some (.tuple #[], M_10)))
          | none => none))
        | none => none))
      | none => none))
    | none => none))))))) := by kernel_rfl
theorem E55 (L : Rec) (x0 : Option Addr) (x1 : Option Addr) (M : AMem) : enterF L a55 [.pointer x0, .pointer x1] M =
  (Option.bind (L.call 22 [.pointer x1, .int .i64 0] M) fun r_1 =>
    (Option.bind (tupOf? 2 r_1.1) fun cs_2 =>
    (Option.bind (cs_2[0]?) fun u_3 =>
    (Option.bind (intOf? .u64 (some u_3)) fun x_4 =>
    (Option.bind (cs_2[1]?) fun u_5 =>
    (Option.bind (boolOf? (some u_5)) fun q_6 =>
    (match x0 with
    | some a_7 => (Option.bind (AMem.wr r_1.2 a_7.block (a_7.off + 4) [.int .u64 x_4]) fun M_8 =>
      (match x0 with
      | some a_9 => (Option.bind (AMem.wr M_8 a_9.block (a_9.off + 2) [.func (.func 74) #[] #[]]) fun M_10 =>
        (match x0 with
        | some a_11 => (Option.bind (intOf? .u64 (AMem.ld M_10 a_11.block (a_11.off + 4))) fun x_12 =>
          (match x0 with
          | some a_13 => (Option.bind (intOf? .i64 (AMem.ld M_10 a_13.block a_13.off)) fun x_14 =>
            (if (decide (x_12 ≥ (IntKind.wrap .u64 x_14))) = true
            then (match x0 with
              | some a_15 => (Option.bind (AMem.wr M_10 a_15.block (a_15.off + 2) [.nilFunc]) fun M_16 =>
                some (.tuple #[], M_16))
              | none => none)
            else some (.tuple #[], M_10)))
          | none => none))
        | none => none))
      | none => none))
    | none => none))))))) := Eq.mp (by kernel_rfl) (GE55 L  x0 x1 M)
/-! #### batch.exchange -/
theorem GE74 (L : Rec) (x0 : Option Addr) (x1 : Option Addr) (M : AMem) : enterF L ⟨54, [], .seq (.ops o74_1) (.seq (.draw [] 0 o74_3 []) (.seq (.seq (.ops o74_6) (.cond (.tmp 32) (.seq (.ops o74_9) (.seq (.ops o74_11) (.ret))) (.skip))) (.ops o74_14)))⟩ [.pointer x0, .pointer x1] M =
  (match x0 with
    | some a_1 => (Option.bind (intOf? .u64 (AMem.ld M a_1.block (a_1.off + 4))) fun x_2 =>
      (match x0 with
      | some a_3 => (Option.bind (intOf? .i64 (AMem.ld M a_3.block (a_3.off + 1))) fun x_4 =>
        (match x0 with
        | some a_5 => (Option.bind (intOf? .i64 (AMem.ld M a_5.block a_5.off)) fun x_6 =>
          (match x0 with
          | some a_7 => (Option.bind (intOf? .u64 (AMem.ld M a_7.block (a_7.off + 4))) fun x_8 =>
            (Option.bind (L.call 14 [.pointer x1, .int .i64 0, .int .u64 x_8, .int .u64 (IntKind.wrap .u64 (IntKind.wrap .i64 ((IntKind.wrap .i64 x_2) + (if (IntKind.wrap .i64 (x_6 - (IntKind.wrap .i64 x_2))) < x_4 then (IntKind.wrap .i64 (x_6 - (IntKind.wrap .i64 x_2))) else x_4))))] M) fun r_9 =>
            (Option.bind (boolOf? (some r_9.1)) fun q_10 =>
            (if (!q_10) = true
            then (match x0 with
              | some a_11 => (Option.bind (intOf? .i64 (AMem.ld r_9.2 a_11.block (a_11.off + 7))) fun x_12 =>
                (match x0 with
                | some a_13 => (Option.bind (AMem.wr r_9.2 a_13.block (a_13.off + 7) [.int .i64 (IntKind.wrap .i64 (x_12 + 1))]) fun M_14 =>
                  (match x0 with
                  | some a_15 => (Option.bind (AMem.wr M_14 a_15.block (a_15.off + 2) [.func (.func 55) #[] #[]]) fun M_16 =>
                    some (.tuple #[], M_16))
                  | none => none))
                | none => none))
              | none => none)
            else (match x0 with
              | some a_17 => (Option.bind (AMem.wr r_9.2 a_17.block (a_17.off + 5) [.int .i64 (IntKind.wrap .i64 x_2)]) fun M_18 =>
                (match x0 with
                | some a_19 => (Option.bind (AMem.wr M_18 a_19.block (a_19.off + 6) [.int .i64 (IntKind.wrap .i64 ((IntKind.wrap .i64 x_2) + (if (IntKind.wrap .i64 (x_6 - (IntKind.wrap .i64 x_2))) < x_4 then (IntKind.wrap .i64 (x_6 - (IntKind.wrap .i64 x_2))) else x_4)))]) fun M_20 =>
                  (match x0 with
                  | some a_21 => (Option.bind (AMem.wr M_20 a_21.block (a_21.off + 2) [.nilFunc]) fun M_22 =>
                    some (.tuple #[], M_22))
                  | none => none))
                | none => none))
              | none => none)))))
          | none => none))
        | none => none))
      | none => none))
    | none => none) := by kernel_rfl
theorem E74 (L : Rec) (x0 : Option Addr) (x1 : Option Addr) (M : AMem) : enterF L a74 [.pointer x0, .pointer x1] M =
  (match x0 with
    | some a_1 => (Option.bind (intOf? .u64 (AMem.ld M a_1.block (a_1.off + 4))) fun x_2 =>
      (match x0 with
      | some a_3 => (Option.bind (intOf? .i64 (AMem.ld M a_3.block (a_3.off + 1))) fun x_4 =>
        (match x0 with
        | some a_5 => (Option.bind (intOf? .i64 (AMem.ld M a_5.block a_5.off)) fun x_6 =>
          (match x0 with
          | some a_7 => (Option.bind (intOf? .u64 (AMem.ld M a_7.block (a_7.off + 4))) fun x_8 =>
            (Option.bind (L.call 14 [.pointer x1, .int .i64 0, .int .u64 x_8, .int .u64 (IntKind.wrap .u64 (IntKind.wrap .i64 ((IntKind.wrap .i64 x_2) + (if (IntKind.wrap .i64 (x_6 - (IntKind.wrap .i64 x_2))) < x_4 then (IntKind.wrap .i64 (x_6 - (IntKind.wrap .i64 x_2))) else x_4))))] M) fun r_9 =>
            (Option.bind (boolOf? (some r_9.1)) fun q_10 =>
            (if (!q_10) = true
            then (match x0 with
              | some a_11 => (Option.bind (intOf? .i64 (AMem.ld r_9.2 a_11.block (a_11.off + 7))) fun x_12 =>
                (match x0 with
                | some a_13 => (Option.bind (AMem.wr r_9.2 a_13.block (a_13.off + 7) [.int .i64 (IntKind.wrap .i64 (x_12 + 1))]) fun M_14 =>
                  (match x0 with
                  | some a_15 => (Option.bind (AMem.wr M_14 a_15.block (a_15.off + 2) [.func (.func 55) #[] #[]]) fun M_16 =>
                    some (.tuple #[], M_16))
                  | none => none))
                | none => none))
              | none => none)
            else (match x0 with
              | some a_17 => (Option.bind (AMem.wr r_9.2 a_17.block (a_17.off + 5) [.int .i64 (IntKind.wrap .i64 x_2)]) fun M_18 =>
                (match x0 with
                | some a_19 => (Option.bind (AMem.wr M_18 a_19.block (a_19.off + 6) [.int .i64 (IntKind.wrap .i64 ((IntKind.wrap .i64 x_2) + (if (IntKind.wrap .i64 (x_6 - (IntKind.wrap .i64 x_2))) < x_4 then (IntKind.wrap .i64 (x_6 - (IntKind.wrap .i64 x_2))) else x_4)))]) fun M_20 =>
                  (match x0 with
                  | some a_21 => (Option.bind (AMem.wr M_20 a_21.block (a_21.off + 2) [.nilFunc]) fun M_22 =>
                    some (.tuple #[], M_22))
                  | none => none))
                | none => none))
              | none => none)))))
          | none => none))
        | none => none))
      | none => none))
    | none => none) := Eq.mp (by kernel_rfl) (GE74 L  x0 x1 M)
/-! #### batch.Claim.under -/
theorem GE56 (L : Rec) (x0 : Option Addr) (M : AMem) : enterF L ⟨12, [.tmp 2], .seq (.ops o56_1) (.seq (.ops o56_3) (.ret))⟩ [.pointer x0] M =
  (if (!(Option.isNone x0)) = true
    then (match x0 with
      | some a_1 => (Option.bind (anyOf? (AMem.ld M a_1.block (a_1.off + 2))) fun u_2 =>
        (Option.bind (isNil 2 u_2) fun q_3 =>
        some (.bool (!q_3), M)))
      | none => none)
    else some (.bool false, M)) := by kernel_rfl
theorem E56 (L : Rec) (x0 : Option Addr) (M : AMem) : enterF L a56 [.pointer x0] M =
  (if (!(Option.isNone x0)) = true
    then (match x0 with
      | some a_1 => (Option.bind (anyOf? (AMem.ld M a_1.block (a_1.off + 2))) fun u_2 =>
        (Option.bind (isNil 2 u_2) fun q_3 =>
        some (.bool (!q_3), M)))
      | none => none)
    else some (.bool false, M)) := Eq.mp (by kernel_rfl) (GE56 L  x0 M)
/-! #### batch.Claim.Step -/
theorem GE17 (L : Rec) (x0 : Option Addr) (x1 : Option Addr) (M : AMem) : enterF L ⟨20, [.tmp 4], .seq (.ops o17_1) (.seq (.seq (.ops o17_4) (.cond (.tmp 12) (.seq (.ops o17_7) (.ret)) (.skip))) (.seq (.ops o17_11) (.seq (.ops o17_13) (.ret))))⟩ [.pointer x0, .pointer x1] M =
  (Option.bind (L.call 56 [.pointer x0] M) fun r_1 =>
    (Option.bind (boolOf? (some r_1.1)) fun q_2 =>
    (if (!q_2) = true
    then some (.bool false, r_1.2)
    else (Option.bind (L.call 57 [.pointer x1] r_1.2) fun r_3 =>
      (Option.bind (intOf? .i64 (some r_3.1)) fun x_4 =>
      (if (x_4 == 0) = true
      then some (.bool false, r_3.2)
      else (match x0 with
        | some a_5 => (Option.bind (anyOf? (AMem.ld r_3.2 a_5.block (a_5.off + 2))) fun u_6 =>
          (callK u_6 (fun g_8 f_9 c_10 =>
          (Option.bind (L.call g_8 (f_9 ++ [.pointer x0, .pointer x1] ++ c_10) r_3.2) fun r_12 =>
          (Option.bind (tupOf? 0 r_12.1) fun cs_13 =>
          some (.bool true, r_12.2)))) (fun l_11 =>
          (Option.bind (L.round l_11 [.pointer x0, .pointer x1] r_3.2) fun r_14 =>
          (Option.bind (tupOf? 0 r_14.1) fun cs_15 =>
          some (.bool true, r_14.2))))))
        | none => none))))))) := by kernel_rfl
theorem E17 (L : Rec) (x0 : Option Addr) (x1 : Option Addr) (M : AMem) : enterF L a17 [.pointer x0, .pointer x1] M =
  (Option.bind (L.call 56 [.pointer x0] M) fun r_1 =>
    (Option.bind (boolOf? (some r_1.1)) fun q_2 =>
    (if (!q_2) = true
    then some (.bool false, r_1.2)
    else (Option.bind (L.call 57 [.pointer x1] r_1.2) fun r_3 =>
      (Option.bind (intOf? .i64 (some r_3.1)) fun x_4 =>
      (if (x_4 == 0) = true
      then some (.bool false, r_3.2)
      else (match x0 with
        | some a_5 => (Option.bind (anyOf? (AMem.ld r_3.2 a_5.block (a_5.off + 2))) fun u_6 =>
          (callK u_6 (fun g_8 f_9 c_10 =>
          (Option.bind (L.call g_8 (f_9 ++ [.pointer x0, .pointer x1] ++ c_10) r_3.2) fun r_12 =>
          (Option.bind (tupOf? 0 r_12.1) fun cs_13 =>
          some (.bool true, r_12.2)))) (fun l_11 =>
          (Option.bind (L.round l_11 [.pointer x0, .pointer x1] r_3.2) fun r_14 =>
          (Option.bind (tupOf? 0 r_14.1) fun cs_15 =>
          some (.bool true, r_14.2))))))
        | none => none))))))) := Eq.mp (by kernel_rfl) (GE17 L  x0 x1 M)
/-! #### batch.Claim.Done -/
theorem GE19 (L : Rec) (x0 : Option Addr) (M : AMem) : enterF L ⟨18, [.tmp 2], .seq (.ops o19_1) (.seq (.ops o19_3) (.ret))⟩ [.pointer x0] M =
  (if (!(Option.isNone x0)) = true
    then (match x0 with
      | some a_1 => (Option.bind (boolOf? (AMem.ld M a_1.block (a_1.off + 3))) fun q_2 =>
        (if q_2 = true
        then (match x0 with
          | some a_3 => (Option.bind (anyOf? (AMem.ld M a_3.block (a_3.off + 2))) fun u_4 =>
            (Option.bind (isNil 2 u_4) fun q_5 =>
            some (.bool q_5, M)))
          | none => none)
        else some (.bool false, M)))
      | none => none)
    else some (.bool false, M)) := by kernel_rfl
theorem E19 (L : Rec) (x0 : Option Addr) (M : AMem) : enterF L a19 [.pointer x0] M =
  (if (!(Option.isNone x0)) = true
    then (match x0 with
      | some a_1 => (Option.bind (boolOf? (AMem.ld M a_1.block (a_1.off + 3))) fun q_2 =>
        (if q_2 = true
        then (match x0 with
          | some a_3 => (Option.bind (anyOf? (AMem.ld M a_3.block (a_3.off + 2))) fun u_4 =>
            (Option.bind (isNil 2 u_4) fun q_5 =>
            some (.bool q_5, M)))
          | none => none)
        else some (.bool false, M)))
      | none => none)
    else some (.bool false, M)) := Eq.mp (by kernel_rfl) (GE19 L  x0 M)
/-! #### batch.Claim.Range -/
theorem GE21 (L : Rec) (x0 : Option Addr) (M : AMem) : enterF L ⟨25, [.tmp 2, .tmp 3, .tmp 4], .seq (.ops o21_1) (.seq (.seq (.ops o21_4) (.cond (.tmp 7) (.seq (.ops o21_7) (.ret)) (.skip))) (.seq (.draw [] 0 o21_11 []) (.ret)))⟩ [.pointer x0] M =
  (Option.bind (L.call 19 [.pointer x0] M) fun r_1 =>
    (Option.bind (boolOf? (some r_1.1)) fun q_2 =>
    (if (!q_2) = true
    then some (.tuple #[.int .i64 0, .int .i64 0, .bool false], r_1.2)
    else (match x0 with
      | some a_3 => (Option.bind (intOf? .i64 (AMem.ld r_1.2 a_3.block (a_3.off + 5))) fun x_4 =>
        (match x0 with
        | some a_5 => (Option.bind (intOf? .i64 (AMem.ld r_1.2 a_5.block (a_5.off + 6))) fun x_6 =>
          (match x0 with
          | some a_7 => (Option.bind (intOf? .i64 (AMem.ld r_1.2 a_7.block (a_7.off + 5))) fun x_8 =>
            (match x0 with
            | some a_9 => (Option.bind (intOf? .i64 (AMem.ld r_1.2 a_9.block (a_9.off + 6))) fun x_10 =>
              some (.tuple #[.int .i64 x_4, .int .i64 x_6, .bool (decide (x_8 < x_10))], r_1.2))
            | none => none))
          | none => none))
        | none => none))
      | none => none)))) := by kernel_rfl
theorem E21 (L : Rec) (x0 : Option Addr) (M : AMem) : enterF L a21 [.pointer x0] M =
  (Option.bind (L.call 19 [.pointer x0] M) fun r_1 =>
    (Option.bind (boolOf? (some r_1.1)) fun q_2 =>
    (if (!q_2) = true
    then some (.tuple #[.int .i64 0, .int .i64 0, .bool false], r_1.2)
    else (match x0 with
      | some a_3 => (Option.bind (intOf? .i64 (AMem.ld r_1.2 a_3.block (a_3.off + 5))) fun x_4 =>
        (match x0 with
        | some a_5 => (Option.bind (intOf? .i64 (AMem.ld r_1.2 a_5.block (a_5.off + 6))) fun x_6 =>
          (match x0 with
          | some a_7 => (Option.bind (intOf? .i64 (AMem.ld r_1.2 a_7.block (a_7.off + 5))) fun x_8 =>
            (match x0 with
            | some a_9 => (Option.bind (intOf? .i64 (AMem.ld r_1.2 a_9.block (a_9.off + 6))) fun x_10 =>
              some (.tuple #[.int .i64 x_4, .int .i64 x_6, .bool (decide (x_8 < x_10))], r_1.2))
            | none => none))
          | none => none))
        | none => none))
      | none => none)))) := Eq.mp (by kernel_rfl) (GE21 L  x0 M)
/-! #### batch.Claim.Lost -/
theorem GE20 (L : Rec) (x0 : Option Addr) (M : AMem) : enterF L ⟨9, [.tmp 2], .seq (.ops o20_1) (.seq (.seq (.ops o20_4) (.cond (.tmp 4) (.seq (.ops o20_7) (.ret)) (.skip))) (.seq (.ops o20_11) (.ret)))⟩ [.pointer x0] M =
  (if (Option.isNone x0) = true
    then some (.int .i64 0, M)
    else (match x0 with
      | some a_1 => (Option.bind (intOf? .i64 (AMem.ld M a_1.block (a_1.off + 7))) fun x_2 =>
        some (.int .i64 x_2, M))
      | none => none)) := by kernel_rfl
theorem E20 (L : Rec) (x0 : Option Addr) (M : AMem) : enterF L a20 [.pointer x0] M =
  (if (Option.isNone x0) = true
    then some (.int .i64 0, M)
    else (match x0 with
      | some a_1 => (Option.bind (intOf? .i64 (AMem.ld M a_1.block (a_1.off + 7))) fun x_2 =>
        some (.int .i64 x_2, M))
      | none => none)) := Eq.mp (by kernel_rfl) (GE20 L  x0 M)
/-! #### batch.Wins -/
theorem GE23 (L : Rec) (x0 : Int) (x1 : Int) : enterF L ⟨25, [.tmp 4], .seq (.ops o23_1) (.seq (.seq (.ops o23_4) (.cond (.tmp 18) (.seq (.ops o23_7) (.ret)) (.skip))) (.seq (.ops o23_11) (.ret)))⟩ [.int .i64 x0, .int .i64 x1] [] =
  (if (decide (x0 < 0)) = true
    then some (.int .i64 0, ([] : AMem))
    else (if (decide (x0 > 1048576)) = true
      then some (.int .i64 0, ([] : AMem))
      else (if (decide (x1 < 1)) = true
        then some (.int .i64 0, ([] : AMem))
        else (if (decide (x1 > 65536)) = true
          then some (.int .i64 0, ([] : AMem))
          else (if x1 = 0
            then none
            else some (.int .i64 (IntKind.wrap .i64 (Int.tdiv (IntKind.wrap .i64 ((IntKind.wrap .i64 (x0 + x1)) - 1)) x1)), ([] : AMem))))))) := by kernel_rfl
theorem E23 (L : Rec) (x0 : Int) (x1 : Int) : enterF L a23 [.int .i64 x0, .int .i64 x1] [] =
  (if (decide (x0 < 0)) = true
    then some (.int .i64 0, ([] : AMem))
    else (if (decide (x0 > 1048576)) = true
      then some (.int .i64 0, ([] : AMem))
      else (if (decide (x1 < 1)) = true
        then some (.int .i64 0, ([] : AMem))
        else (if (decide (x1 > 65536)) = true
          then some (.int .i64 0, ([] : AMem))
          else (if x1 = 0
            then none
            else some (.int .i64 (IntKind.wrap .i64 (Int.tdiv (IntKind.wrap .i64 ((IntKind.wrap .i64 (x0 + x1)) - 1)) x1)), ([] : AMem))))))) := Eq.mp (by kernel_rfl) (GE23 L  x0 x1)
end Go.Proofs.Ytjmeilpffmhojaa
