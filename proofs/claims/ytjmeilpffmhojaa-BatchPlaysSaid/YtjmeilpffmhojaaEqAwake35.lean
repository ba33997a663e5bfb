/- What the pieces of some functions come to. -/
import Derived.Test.YtjmeilpffmhojaaCode
set_option linter.unusedVariables false
set_option maxRecDepth 100000
namespace Go.Proofs.Ytjmeilpffmhojaa
open Go Go.Ax
/-! #### skylightlaw35.awake -/
theorem GE10 (L : Rec) : enterF L ⟨74, [.tmp 0], .seq (.ops o10_1) (.seq (.ops o10_3) (.seq (.ops o10_5) (.seq (.seq (.ops o10_8) (.cond (.tmp 40) (.seq (.ops o10_11) (.ret)) (.skip))) (.seq (.ops o10_15) (.seq (.ops o10_17) (.seq (.ops o10_19) (.seq (.ops o10_21) (.ret))))))))⟩ [] [] =
  (Option.bind (L.call 12 [.int .i64 1] ([] : AMem)) fun r_1 =>
    (Option.bind (ptrOf? (some r_1.1)) fun p_2 =>
    (Option.bind (L.call 16 [.int .i64 5, .int .i64 2] r_1.2) fun r_3 =>
    (Option.bind (ptrOf? (some r_3.1)) fun p_4 =>
    (Option.bind (L.call 16 [.int .i64 5, .int .i64 2] r_3.2) fun r_5 =>
    (Option.bind (ptrOf? (some r_5.1)) fun p_6 =>
    (Option.bind (L.call 17 [.pointer p_4, .pointer p_2] r_5.2) fun r_7 =>
    (Option.bind (boolOf? (some r_7.1)) fun q_8 =>
    (if (!q_8) = true
    then some (.bool false, r_7.2)
    else (Option.bind (L.call 17 [.pointer p_6, .pointer p_2] r_7.2) fun r_9 =>
      (Option.bind (boolOf? (some r_9.1)) fun q_10 =>
      (if (!q_10) = true
      then some (.bool false, r_9.2)
      else (Option.bind (L.call 17 [.pointer p_4, .pointer p_2] r_9.2) fun r_11 =>
        (Option.bind (boolOf? (some r_11.1)) fun q_12 =>
        (if (!q_12) = true
        then some (.bool false, r_11.2)
        else (Option.bind (L.call 17 [.pointer p_6, .pointer p_2] r_11.2) fun r_13 =>
          (Option.bind (boolOf? (some r_13.1)) fun q_14 =>
          (if (!q_14) = true
          then some (.bool false, r_13.2)
          else (Option.bind (L.call 20 [.pointer p_6] r_13.2) fun r_15 =>
            (Option.bind (intOf? .i64 (some r_15.1)) fun x_16 =>
            (if (x_16 != 1) = true
            then some (.bool false, r_15.2)
            else (Option.bind (L.call 19 [.pointer p_6] r_15.2) fun r_17 =>
              (Option.bind (boolOf? (some r_17.1)) fun q_18 =>
              (if q_18 = true
              then some (.bool false, r_17.2)
              else (Option.bind (L.call 17 [.pointer p_6, .pointer p_2] r_17.2) fun r_19 =>
                (Option.bind (boolOf? (some r_19.1)) fun q_20 =>
                (Option.bind (L.call 17 [.pointer p_6, .pointer p_2] r_19.2) fun r_21 =>
                (Option.bind (boolOf? (some r_21.1)) fun q_22 =>
                (Option.bind (L.call 21 [.pointer p_6] r_21.2) fun r_23 =>
                (Option.bind (tupOf? 3 r_23.1) fun cs_24 =>
                (Option.bind (cs_24[0]?) fun u_25 =>
                (Option.bind (intOf? .i64 (some u_25)) fun x_26 =>
                (Option.bind (cs_24[1]?) fun u_27 =>
                (Option.bind (intOf? .i64 (some u_27)) fun x_28 =>
                (Option.bind (cs_24[2]?) fun u_29 =>
                (Option.bind (boolOf? (some u_29)) fun q_30 =>
                (Option.bind (L.call 19 [.pointer p_4] r_23.2) fun r_31 =>
                (Option.bind (boolOf? (some r_31.1)) fun q_32 =>
                (if q_32 = true
                then (if q_30 = true
                  then (if (x_26 == 2) = true
                    then (if (x_28 == 4) = true
                      then (Option.bind (L.call 23 [.int .i64 5, .int .i64 2] []) fun r_33 =>
                        (Option.bind (intOf? .i64 (some r_33.1)) fun x_34 =>
                        (if (x_34 == 3) = true
                        then (Option.bind (L.call 16 [.int .i64 (-1), .int .i64 1] r_31.2) fun r_35 =>
                          (Option.bind (ptrOf? (some r_35.1)) fun p_36 =>
                          some (.bool (Option.isNone p_36), r_35.2)))
                        else some (.bool false, r_31.2))))
                      else some (.bool false, r_31.2))
                    else some (.bool false, r_31.2))
                  else some (.bool false, r_31.2))
                else some (.bool false, r_31.2)))))))))))))))))))))))))))))))))))))))) := by kernel_rfl
theorem E10 (L : Rec) : enterF L a10 [] [] =
  (Option.bind (L.call 12 [.int .i64 1] ([] : AMem)) fun r_1 =>
    (Option.bind (ptrOf? (some r_1.1)) fun p_2 =>
    (Option.bind (L.call 16 [.int .i64 5, .int .i64 2] r_1.2) fun r_3 =>
    (Option.bind (ptrOf? (some r_3.1)) fun p_4 =>
    (Option.bind (L.call 16 [.int .i64 5, .int .i64 2] r_3.2) fun r_5 =>
    (Option.bind (ptrOf? (some r_5.1)) fun p_6 =>
    (Option.bind (L.call 17 [.pointer p_4, .pointer p_2] r_5.2) fun r_7 =>
    (Option.bind (boolOf? (some r_7.1)) fun q_8 =>
    (if (!q_8) = true
    then some (.bool false, r_7.2)
    else (Option.bind (L.call 17 [.pointer p_6, .pointer p_2] r_7.2) fun r_9 =>
      (Option.bind (boolOf? (some r_9.1)) fun q_10 =>
      (if (!q_10) = true
      then some (.bool false, r_9.2)
      else (Option.bind (L.call 17 [.pointer p_4, .pointer p_2] r_9.2) fun r_11 =>
        (Option.bind (boolOf? (some r_11.1)) fun q_12 =>
        (if (!q_12) = true
        then some (.bool false, r_11.2)
        else (Option.bind (L.call 17 [.pointer p_6, .pointer p_2] r_11.2) fun r_13 =>
          (Option.bind (boolOf? (some r_13.1)) fun q_14 =>
          (if (!q_14) = true
          then some (.bool false, r_13.2)
          else (Option.bind (L.call 20 [.pointer p_6] r_13.2) fun r_15 =>
            (Option.bind (intOf? .i64 (some r_15.1)) fun x_16 =>
            (if (x_16 != 1) = true
            then some (.bool false, r_15.2)
            else (Option.bind (L.call 19 [.pointer p_6] r_15.2) fun r_17 =>
              (Option.bind (boolOf? (some r_17.1)) fun q_18 =>
              (if q_18 = true
              then some (.bool false, r_17.2)
              else (Option.bind (L.call 17 [.pointer p_6, .pointer p_2] r_17.2) fun r_19 =>
                (Option.bind (boolOf? (some r_19.1)) fun q_20 =>
                (Option.bind (L.call 17 [.pointer p_6, .pointer p_2] r_19.2) fun r_21 =>
                (Option.bind (boolOf? (some r_21.1)) fun q_22 =>
                (Option.bind (L.call 21 [.pointer p_6] r_21.2) fun r_23 =>
                (Option.bind (tupOf? 3 r_23.1) fun cs_24 =>
                (Option.bind (cs_24[0]?) fun u_25 =>
                (Option.bind (intOf? .i64 (some u_25)) fun x_26 =>
                (Option.bind (cs_24[1]?) fun u_27 =>
                (Option.bind (intOf? .i64 (some u_27)) fun x_28 =>
                (Option.bind (cs_24[2]?) fun u_29 =>
                (Option.bind (boolOf? (some u_29)) fun q_30 =>
                (Option.bind (L.call 19 [.pointer p_4] r_23.2) fun r_31 =>
                (Option.bind (boolOf? (some r_31.1)) fun q_32 =>
                (if q_32 = true
                then (if q_30 = true
                  then (if (x_26 == 2) = true
                    then (if (x_28 == 4) = true
                      then (Option.bind (L.call 23 [.int .i64 5, .int .i64 2] []) fun r_33 =>
                        (Option.bind (intOf? .i64 (some r_33.1)) fun x_34 =>
                        (if (x_34 == 3) = true
                        then (Option.bind (L.call 16 [.int .i64 (-1), .int .i64 1] r_31.2) fun r_35 =>
                          (Option.bind (ptrOf? (some r_35.1)) fun p_36 =>
                          some (.bool (Option.isNone p_36), r_35.2)))
                        else some (.bool false, r_31.2))))
                      else some (.bool false, r_31.2))
                    else some (.bool false, r_31.2))
                  else some (.bool false, r_31.2))
                else some (.bool false, r_31.2)))))))))))))))))))))))))))))))))))))))) := Eq.mp (by kernel_rfl) (GE10 L  )
end Go.Proofs.Ytjmeilpffmhojaa
