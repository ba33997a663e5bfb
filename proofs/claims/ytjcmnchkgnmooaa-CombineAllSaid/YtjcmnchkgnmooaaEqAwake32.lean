/- What the pieces of some functions come to. -/
import Derived.Test.YtjcmnchkgnmooaaCode
set_option linter.unusedVariables false
set_option maxRecDepth 100000
namespace Go.Proofs.Ytjcmnchkgnmooaa
open Go Go.Ax
/-! #### skylightlaw32.awake -/
theorem E5 (L : Rec) : enterF L a5 [] [] =
  (Option.bind (L.call 6 [.agg #[.int .i64 9, .int .i64 2], .int .i64 1] ([] : AMem)) fun r_1 =>
    (Option.bind (ptrOf? (some r_1.1)) fun p_2 =>
    (Option.bind (AMem.wr (r_1.2 ++ [AObj.cells [.int .i64 0, .int .i64 0, .int .i64 0] ⟨false, 0⟩]) (List.length r_1.2) 0 [.int .i64 1, .int .i64 0, .int .i64 0]) fun M_3 =>
    (Option.bind (intOf? .i64 (AMem.ld M_3 (List.length r_1.2) 0)) fun x_4 =>
    (Option.bind (intOf? .i64 (AMem.ld M_3 (List.length r_1.2) 1)) fun x_5 =>
    (Option.bind (intOf? .i64 (AMem.ld M_3 (List.length r_1.2) 2)) fun x_6 =>
    (Option.bind (L.call 7 [.pointer p_2, .agg #[.int .i64 3, .int .i64 x_4, .int .i64 x_5, .int .i64 x_6]] M_3) fun r_7 =>
    (Option.bind (boolOf? (some r_7.1)) fun q_8 =>
    (if (!q_8) = true
    then some (.bool false, r_7.2)
    else (Option.bind (intOf? .i64 (AMem.ld r_7.2 (List.length r_1.2) 0)) fun x_9 =>
      (Option.bind (intOf? .i64 (AMem.ld r_7.2 (List.length r_1.2) 1)) fun x_10 =>
      (Option.bind (intOf? .i64 (AMem.ld r_7.2 (List.length r_1.2) 2)) fun x_11 =>
      (Option.bind (L.call 7 [.pointer p_2, .agg #[.int .i64 3, .int .i64 x_9, .int .i64 x_10, .int .i64 x_11]] r_7.2) fun r_12 =>
      (Option.bind (boolOf? (some r_12.1)) fun q_13 =>
      (if (!q_13) = true
      then some (.bool false, r_12.2)
      else (Option.bind (intOf? .i64 (AMem.ld r_12.2 (List.length r_1.2) 0)) fun x_14 =>
        (Option.bind (intOf? .i64 (AMem.ld r_12.2 (List.length r_1.2) 1)) fun x_15 =>
        (Option.bind (intOf? .i64 (AMem.ld r_12.2 (List.length r_1.2) 2)) fun x_16 =>
        (Option.bind (L.call 7 [.pointer p_2, .agg #[.int .i64 4, .int .i64 x_14, .int .i64 x_15, .int .i64 x_16]] r_12.2) fun r_17 =>
        (Option.bind (boolOf? (some r_17.1)) fun q_18 =>
        (if q_18 = true
        then some (.bool false, r_17.2)
        else (Option.bind (L.call 11 [.pointer p_2, .int .i64 3] r_17.2) fun r_19 =>
          (Option.bind (tupOf? 2 r_19.1) fun cs_20 =>
          (Option.bind (cs_20[0]?) fun u_21 =>
          (Option.bind (aggOf? 3 u_21) fun cs_22 =>
          (Option.bind (intOf? .u64 (cs_22[0]?)) fun x_23 =>
          (Option.bind (intOf? .u64 (cs_22[1]?)) fun x_24 =>
          (Option.bind (intOf? .u64 (cs_22[2]?)) fun x_25 =>
          (Option.bind (cs_20[1]?) fun u_26 =>
          (Option.bind (boolOf? (some u_26)) fun q_27 =>
          (Option.bind (AMem.wr (r_19.2 ++ [AObj.cells [.int .u64 0, .int .u64 0, .int .u64 0] ⟨false, 0⟩]) (List.length r_19.2) 0 [.int .u64 x_23, .int .u64 x_24, .int .u64 x_25]) fun M_28 =>
          (if q_27 = true
          then (Option.bind (intOf? .u64 (AMem.ld M_28 (List.length r_19.2) 0)) fun x_29 =>
            (Option.bind (intOf? .u64 (AMem.ld M_28 (List.length r_19.2) 1)) fun x_30 =>
            (Option.bind (intOf? .u64 (AMem.ld M_28 (List.length r_19.2) 2)) fun x_31 =>
            (if ((x_29 == 2) && ((x_30 == 0) && (x_31 == 0))) = true
            then (Option.bind (L.call 10 [.pointer p_2] M_28) fun r_32 =>
              (Option.bind (sliceOf? (some r_32.1)) fun s_33 =>
              (if ((Int.ofNat s_33.2.1) == 1) = true
              then (Option.bind (L.call 8 [.pointer p_2, .int .i64 1] r_32.2) fun r_34 =>
                (Option.bind (sliceOf? (some r_34.1)) fun s_35 =>
                (if ((Int.ofNat s_35.2.1) == 1) = true
                then (Option.bind (L.call 9 [.pointer p_2] r_34.2) fun r_36 =>
                  (Option.bind (intOf? .i64 (some r_36.1)) fun x_37 =>
                  some (.bool (x_37 == 0), r_36.2)))
                else some (.bool false, r_34.2))))
              else some (.bool false, r_32.2))))
            else some (.bool false, M_28)))))
          else some (.bool false, M_28))))))))))))))))))))))))))))))))) := by kernel_rfl
end Go.Proofs.Ytjcmnchkgnmooaa
