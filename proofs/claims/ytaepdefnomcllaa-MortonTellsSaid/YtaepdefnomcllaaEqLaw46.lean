/- What the pieces of some functions come to. -/
import Derived.Test.YtaepdefnomcllaaCode
set_option linter.unusedVariables false
set_option maxRecDepth 100000
namespace Go.Proofs.Ytaepdefnomcllaa
open Go Go.Ax
/-! #### skylightlaw46.awake -/
theorem GE42 (L : Rec) : enterF L ⟨30, [.tmp 0], .seq (.ops o42_1) (.seq (.ops o42_3) (.seq (.ops o42_5) (.ret)))⟩ [] [] =
  (Option.bind (L.call 40 [.int .i64 8] []) fun r_1 =>
    (Option.bind (tupOf? 2 r_1.1) fun cs_2 =>
    (Option.bind (cs_2[0]?) fun u_3 =>
    (Option.bind (intOf? .i64 (some u_3)) fun x_4 =>
    (Option.bind (cs_2[1]?) fun u_5 =>
    (Option.bind (intOf? .i64 (some u_5)) fun x_6 =>
    (Option.bind (L.call 39 [.int .i64 3, .int .i64 1] []) fun r_7 =>
    (Option.bind (intOf? .i64 (some r_7.1)) fun x_8 =>
    (if (x_8 == 7) = true
    then (if (x_4 == 0) = true
      then (if (x_6 == 2) = true
        then (Option.bind (L.call 39 [.int .i64 (-1), .int .i64 0] []) fun r_9 =>
          (Option.bind (intOf? .i64 (some r_9.1)) fun x_10 =>
          (if (x_10 == (-1)) = true
          then (Option.bind (L.call 46 [.int .i64 3, .int .i64 2] ([] : AMem)) fun r_11 =>
            (Option.bind (sliceOf? (some r_11.1)) fun s_12 =>
            (if ((Int.ofNat s_12.2.1) == 6) = true
            then (Option.bind (L.call 41 [.int .i64 7, .int .i64 1] []) fun r_13 =>
              (Option.bind (intOf? .i64 (some r_13.1)) fun x_14 =>
              some (.bool (x_14 == 1), r_11.2)))
            else some (.bool false, r_11.2))))
          else some (.bool false, ([] : AMem)))))
        else some (.bool false, ([] : AMem)))
      else some (.bool false, ([] : AMem)))
    else some (.bool false, ([] : AMem))))))))))) := by kernel_rfl
theorem E42 (L : Rec) : enterF L a42 [] [] =
  (Option.bind (L.call 40 [.int .i64 8] []) fun r_1 =>
    (Option.bind (tupOf? 2 r_1.1) fun cs_2 =>
    (Option.bind (cs_2[0]?) fun u_3 =>
    (Option.bind (intOf? .i64 (some u_3)) fun x_4 =>
    (Option.bind (cs_2[1]?) fun u_5 =>
    (Option.bind (intOf? .i64 (some u_5)) fun x_6 =>
    (Option.bind (L.call 39 [.int .i64 3, .int .i64 1] []) fun r_7 =>
    (Option.bind (intOf? .i64 (some r_7.1)) fun x_8 =>
    (if (x_8 == 7) = true
    then (if (x_4 == 0) = true
      then (if (x_6 == 2) = true
        then (Option.bind (L.call 39 [.int .i64 (-1), .int .i64 0] []) fun r_9 =>
          (Option.bind (intOf? .i64 (some r_9.1)) fun x_10 =>
          (if (x_10 == (-1)) = true
          then (Option.bind (L.call 46 [.int .i64 3, .int .i64 2] ([] : AMem)) fun r_11 =>
            (Option.bind (sliceOf? (some r_11.1)) fun s_12 =>
            (if ((Int.ofNat s_12.2.1) == 6) = true
            then (Option.bind (L.call 41 [.int .i64 7, .int .i64 1] []) fun r_13 =>
              (Option.bind (intOf? .i64 (some r_13.1)) fun x_14 =>
              some (.bool (x_14 == 1), r_11.2)))
            else some (.bool false, r_11.2))))
          else some (.bool false, ([] : AMem)))))
        else some (.bool false, ([] : AMem)))
      else some (.bool false, ([] : AMem)))
    else some (.bool false, ([] : AMem))))))))))) := Eq.mp (by kernel_rfl) (GE42 L  )
/-! #### skylightlaw46.MortonBack -/
theorem GE8 (L : Rec) (x0 : Int) (x1 : Int) (x2 : Int) (x3 : Int) (x4 : Int) (M : AMem) : enterF L ⟨121, [.tmp 10], .seq (.ops o8_1) (.seq (.ops o8_3) (.seq (.ops o8_5) (.seq (.seq (.ops o8_8) (.cond (.tmp 78) (.seq (.ops o8_11) (.ret)) (.skip))) (.seq (.ops o8_15) (.seq (.draw [] 0 o8_17 []) (.seq (.draw [] 0 o8_19 []) (.ret)))))))⟩ [.int .u16 x0, .int .u16 x1, .int .u16 x2, .int .u16 x3, .int .u8 x4] M =
  (Option.bind (L.call 39 [.int .i64 (IntKind.wrap .i64 x0), .int .i64 (IntKind.wrap .i64 x1)] []) fun r_1 =>
    (Option.bind (intOf? .i64 (some r_1.1)) fun x_2 =>
    (Option.bind (L.call 39 [.int .i64 (IntKind.wrap .i64 x2), .int .i64 (IntKind.wrap .i64 x3)] []) fun r_3 =>
    (Option.bind (intOf? .i64 (some r_3.1)) fun x_4 =>
    (Option.bind (L.call 40 [.int .i64 x_2] []) fun r_5 =>
    (Option.bind (tupOf? 2 r_5.1) fun cs_6 =>
    (Option.bind (cs_6[0]?) fun u_7 =>
    (Option.bind (intOf? .i64 (some u_7)) fun x_8 =>
    (Option.bind (cs_6[1]?) fun u_9 =>
    (Option.bind (intOf? .i64 (some u_9)) fun x_10 =>
    (if (x_8 != (IntKind.wrap .i64 x0)) = true
    then some (.bool false, M)
    else (if (x_10 != (IntKind.wrap .i64 x1)) = true
      then some (.bool false, M)
      else (if (decide (x_2 < 0)) = true
        then some (.bool false, M)
        else (if (decide (x_2 ≥ 4294967296)) = true
          then some (.bool false, M)
          else (if (decide (x0 ≤ x2)) = true
            then (if (decide (x1 ≤ x3)) = true
              then (if (decide (x_2 > x_4)) = true
                then some (.bool false, M)
                else (if (x0 == x2) = true
                  then (if (!((x_2 == x_4) == (x1 == x3))) = true
                    then some (.bool false, M)
                    else (if (Int.tmod (IntKind.wrap .i64 x4) 17) < 0
                      then none
                      else (if (Int.tmod (IntKind.wrap .i64 x4) 17) < 0
                        then none
                        else (if ((Int.fdiv x0 (2 ^ (min (Int.toNat (Int.tmod (IntKind.wrap .i64 x4) 17)) (IntKind.bits .u16)))) == (Int.fdiv x2 (2 ^ (min (Int.toNat (Int.tmod (IntKind.wrap .i64 x4) 17)) (IntKind.bits .u16))))) = true
                          then (if (Int.tmod (IntKind.wrap .i64 x4) 17) < 0
                            then none
                            else (if (Int.tmod (IntKind.wrap .i64 x4) 17) < 0
                              then none
                              else (Option.bind (L.call 41 [.int .i64 x_2, .int .i64 (Int.tmod (IntKind.wrap .i64 x4) 17)] []) fun r_11 =>
                                (Option.bind (intOf? .i64 (some r_11.1)) fun x_12 =>
                                (Option.bind (L.call 41 [.int .i64 x_4, .int .i64 (Int.tmod (IntKind.wrap .i64 x4) 17)] []) fun r_13 =>
                                (Option.bind (intOf? .i64 (some r_13.1)) fun x_14 =>
                                (if ((x_12 == x_14) == ((Int.fdiv x1 (2 ^ (min (Int.toNat (Int.tmod (IntKind.wrap .i64 x4) 17)) (IntKind.bits .u16)))) == (Int.fdiv x3 (2 ^ (min (Int.toNat (Int.tmod (IntKind.wrap .i64 x4) 17)) (IntKind.bits .u16)))))) = true
                                then (Option.bind (L.call 41 [.int .i64 x_2, .int .i64 (Int.tmod (IntKind.wrap .i64 x4) 17)] []) fun r_15 =>
                                  (Option.bind (intOf? .i64 (some r_15.1)) fun x_16 =>
                                  (if (IntKind.wrap .i64 (2 * (Int.tmod (IntKind.wrap .i64 x4) 17))) < 0
                                  then none
                                  else (if (IntKind.wrap .i64 (1 * 2 ^ (min (Int.toNat (IntKind.wrap .i64 (2 * (Int.tmod (IntKind.wrap .i64 x4) 17)))) (IntKind.bits .i64)))) = 0
                                    then none
                                    else (if (x_16 == (IntKind.wrap .i64 (Int.tdiv x_2 (IntKind.wrap .i64 (1 * 2 ^ (min (Int.toNat (IntKind.wrap .i64 (2 * (Int.tmod (IntKind.wrap .i64 x4) 17)))) (IntKind.bits .i64))))))) = true
                                      then (Option.bind (L.call 42 [] []) fun r_17 =>
                                        (Option.bind (boolOf? (some r_17.1)) fun q_18 =>
                                        some (.bool q_18, M)))
                                      else some (.bool false, M))))))
                                else some (.bool false, M))))))))
                          else (Option.bind (L.call 41 [.int .i64 x_2, .int .i64 (Int.tmod (IntKind.wrap .i64 x4) 17)] []) fun r_19 =>
                            (Option.bind (intOf? .i64 (some r_19.1)) fun x_20 =>
                            (Option.bind (L.call 41 [.int .i64 x_4, .int .i64 (Int.tmod (IntKind.wrap .i64 x4) 17)] []) fun r_21 =>
                            (Option.bind (intOf? .i64 (some r_21.1)) fun x_22 =>
                            (if ((x_20 == x_22) == false) = true
                            then (Option.bind (L.call 41 [.int .i64 x_2, .int .i64 (Int.tmod (IntKind.wrap .i64 x4) 17)] []) fun r_23 =>
                              (Option.bind (intOf? .i64 (some r_23.1)) fun x_24 =>
                              (if (IntKind.wrap .i64 (2 * (Int.tmod (IntKind.wrap .i64 x4) 17))) < 0
                              then none
                              else (if (IntKind.wrap .i64 (1 * 2 ^ (min (Int.toNat (IntKind.wrap .i64 (2 * (Int.tmod (IntKind.wrap .i64 x4) 17)))) (IntKind.bits .i64)))) = 0
                                then none
                                else (if (x_24 == (IntKind.wrap .i64 (Int.tdiv x_2 (IntKind.wrap .i64 (1 * 2 ^ (min (Int.toNat (IntKind.wrap .i64 (2 * (Int.tmod (IntKind.wrap .i64 x4) 17)))) (IntKind.bits .i64))))))) = true
                                  then (Option.bind (L.call 42 [] []) fun r_25 =>
                                    (Option.bind (boolOf? (some r_25.1)) fun q_26 =>
                                    some (.bool q_26, M)))
                                  else some (.bool false, M))))))
                            else some (.bool false, M))))))))))
                  else (if (!((x_2 == x_4) == false)) = true
                    then some (.bool false, M)
                    else (if (Int.tmod (IntKind.wrap .i64 x4) 17) < 0
                      then none
                      else (if (Int.tmod (IntKind.wrap .i64 x4) 17) < 0
                        then none
                        else (if ((Int.fdiv x0 (2 ^ (min (Int.toNat (Int.tmod (IntKind.wrap .i64 x4) 17)) (IntKind.bits .u16)))) == (Int.fdiv x2 (2 ^ (min (Int.toNat (Int.tmod (IntKind.wrap .i64 x4) 17)) (IntKind.bits .u16))))) = true
                          then (if (Int.tmod (IntKind.wrap .i64 x4) 17) < 0
                            then none
                            else (if (Int.tmod (IntKind.wrap .i64 x4) 17) < 0
                              then none
                              else (Option.bind (L.call 41 [.int .i64 x_2, .int .i64 (Int.tmod (IntKind.wrap .i64 x4) 17)] []) fun r_27 =>
                                (Option.bind (intOf? .i64 (some r_27.1)) fun x_28 =>
                                (Option.bind (L.call 41 [.int .i64 x_4, .int .i64 (Int.tmod (IntKind.wrap .i64 x4) 17)] []) fun r_29 =>
                                (Option.bind (intOf? .i64 (some r_29.1)) fun x_30 =>
                                (if ((x_28 == x_30) == ((Int.fdiv x1 (2 ^ (min (Int.toNat (Int.tmod (IntKind.wrap .i64 x4) 17)) (IntKind.bits .u16)))) == (Int.fdiv x3 (2 ^ (min (Int.toNat (Int.tmod (IntKind.wrap .i64 x4) 17)) (IntKind.bits .u16)))))) = true
                                then (Option.bind (L.call 41 [.int .i64 x_2, .int .i64 (Int.tmod (IntKind.wrap .i64 x4) 17)] []) fun r_31 =>
                                  (Option.bind (intOf? .i64 (some r_31.1)) fun x_32 =>
                                  (if (IntKind.wrap .i64 (2 * (Int.tmod (IntKind.wrap .i64 x4) 17))) < 0
                                  then none
                                  else (if (IntKind.wrap .i64 (1 * 2 ^ (min (Int.toNat (IntKind.wrap .i64 (2 * (Int.tmod (IntKind.wrap .i64 x4) 17)))) (IntKind.bits .i64)))) = 0
                                    then none
                                    else (if (x_32 == (IntKind.wrap .i64 (Int.tdiv x_2 (IntKind.wrap .i64 (1 * 2 ^ (min (Int.toNat (IntKind.wrap .i64 (2 * (Int.tmod (IntKind.wrap .i64 x4) 17)))) (IntKind.bits .i64))))))) = true
                                      then (Option.bind (L.call 42 [] []) fun r_33 =>
                                        (Option.bind (boolOf? (some r_33.1)) fun q_34 =>
                                        some (.bool q_34, M)))
                                      else some (.bool false, M))))))
                                else some (.bool false, M))))))))
                          else (Option.bind (L.call 41 [.int .i64 x_2, .int .i64 (Int.tmod (IntKind.wrap .i64 x4) 17)] []) fun r_35 =>
                            (Option.bind (intOf? .i64 (some r_35.1)) fun x_36 =>
                            (Option.bind (L.call 41 [.int .i64 x_4, .int .i64 (Int.tmod (IntKind.wrap .i64 x4) 17)] []) fun r_37 =>
                            (Option.bind (intOf? .i64 (some r_37.1)) fun x_38 =>
                            (if ((x_36 == x_38) == false) = true
                            then (Option.bind (L.call 41 [.int .i64 x_2, .int .i64 (Int.tmod (IntKind.wrap .i64 x4) 17)] []) fun r_39 =>
                              (Option.bind (intOf? .i64 (some r_39.1)) fun x_40 =>
                              (if (IntKind.wrap .i64 (2 * (Int.tmod (IntKind.wrap .i64 x4) 17))) < 0
                              then none
                              else (if (IntKind.wrap .i64 (1 * 2 ^ (min (Int.toNat (IntKind.wrap .i64 (2 * (Int.tmod (IntKind.wrap .i64 x4) 17)))) (IntKind.bits .i64)))) = 0
                                then none
                                else (if (x_40 == (IntKind.wrap .i64 (Int.tdiv x_2 (IntKind.wrap .i64 (1 * 2 ^ (min (Int.toNat (IntKind.wrap .i64 (2 * (Int.tmod (IntKind.wrap .i64 x4) 17)))) (IntKind.bits .i64))))))) = true
                                  then (Option.bind (L.call 42 [] []) fun r_41 =>
                                    (Option.bind (boolOf? (some r_41.1)) fun q_42 =>
                                    some (.bool q_42, M)))
                                  else some (.bool false, M))))))
                            else some (.bool false, M))))))))))))
              else (if (x0 == x2) = true
                then (if (!((x_2 == x_4) == (x1 == x3))) = true
                  then some (.bool false, M)
                  else (if (Int.tmod (IntKind.wrap .i64 x4) 17) < 0
                    then none
                    else (if (Int.tmod (IntKind.wrap .i64 x4) 17) < 0
                      then none
                      else (if ((Int.fdiv x0 (2 ^ (min (Int.toNat (Int.tmod (IntKind.wrap .i64 x4) 17)) (IntKind.bits .u16)))) == (Int.fdiv x2 (2 ^ (min (Int.toNat (Int.tmod (IntKind.wrap .i64 x4) 17)) (IntKind.bits .u16))))) = true
                        then (if (Int.tmod (IntKind.wrap .i64 x4) 17) < 0
                          then none
                          else (if (Int.tmod (IntKind.wrap .i64 x4) 17) < 0
                            then none
                            else (Option.bind (L.call 41 [.int .i64 x_2, .int .i64 (Int.tmod (IntKind.wrap .i64 x4) 17)] []) fun r_43 =>
                              (Option.bind (intOf? .i64 (some r_43.1)) fun x_44 =>
                              (Option.bind (L.call 41 [.int .i64 x_4, .int .i64 (Int.tmod (IntKind.wrap .i64 x4) 17)] []) fun r_45 =>
                              (Option.bind (intOf? .i64 (some r_45.1)) fun x_46 =>
                              (if ((x_44 == x_46) == ((Int.fdiv x1 (2 ^ (min (Int.toNat (Int.tmod (IntKind.wrap .i64 x4) 17)) (IntKind.bits .u16)))) == (Int.fdiv x3 (2 ^ (min (Int.toNat (Int.tmod (IntKind.wrap .i64 x4) 17)) (IntKind.bits .u16)))))) = true
                              then (Option.bind (L.call 41 [.int .i64 x_2, .int .i64 (Int.tmod (IntKind.wrap .i64 x4) 17)] []) fun r_47 =>
                                (Option.bind (intOf? .i64 (some r_47.1)) fun x_48 =>
                                (if (IntKind.wrap .i64 (2 * (Int.tmod (IntKind.wrap .i64 x4) 17))) < 0
                                then none
                                else (if (IntKind.wrap .i64 (1 * 2 ^ (min (Int.toNat (IntKind.wrap .i64 (2 * (Int.tmod (IntKind.wrap .i64 x4) 17)))) (IntKind.bits .i64)))) = 0
                                  then none
                                  else (if (x_48 == (IntKind.wrap .i64 (Int.tdiv x_2 (IntKind.wrap .i64 (1 * 2 ^ (min (Int.toNat (IntKind.wrap .i64 (2 * (Int.tmod (IntKind.wrap .i64 x4) 17)))) (IntKind.bits .i64))))))) = true
                                    then (Option.bind (L.call 42 [] []) fun r_49 =>
                                      (Option.bind (boolOf? (some r_49.1)) fun q_50 =>
                                      some (.bool q_50, M)))
                                    else some (.bool false, M))))))
                              else some (.bool false, M))))))))
                        else (Option.bind (L.call 41 [.int .i64 x_2, .int .i64 (Int.tmod (IntKind.wrap .i64 x4) 17)] []) fun r_51 =>
                          (Option.bind (intOf? .i64 (some r_51.1)) fun x_52 =>
                          (Option.bind (L.call 41 [.int .i64 x_4, .int .i64 (Int.tmod (IntKind.wrap .i64 x4) 17)] []) fun r_53 =>
                          (Option.bind (intOf? .i64 (some r_53.1)) fun x_54 =>
                          (if ((x_52 == x_54) == false) = true
                          then (Option.bind (L.call 41 [.int .i64 x_2, .int .i64 (Int.tmod (IntKind.wrap .i64 x4) 17)] []) fun r_55 =>
                            (Option.bind (intOf? .i64 (some r_55.1)) fun x_56 =>
                            (if (IntKind.wrap .i64 (2 * (Int.tmod (IntKind.wrap .i64 x4) 17))) < 0
                            then none
                            else (if (IntKind.wrap .i64 (1 * 2 ^ (min (Int.toNat (IntKind.wrap .i64 (2 * (Int.tmod (IntKind.wrap .i64 x4) 17)))) (IntKind.bits .i64)))) = 0
                              then none
                              else (if (x_56 == (IntKind.wrap .i64 (Int.tdiv x_2 (IntKind.wrap .i64 (1 * 2 ^ (min (Int.toNat (IntKind.wrap .i64 (2 * (Int.tmod (IntKind.wrap .i64 x4) 17)))) (IntKind.bits .i64))))))) = true
                                then (Option.bind (L.call 42 [] []) fun r_57 =>
                                  (Option.bind (boolOf? (some r_57.1)) fun q_58 =>
                                  some (.bool q_58, M)))
                                else some (.bool false, M))))))
                          else some (.bool false, M))))))))))
                else (if (!((x_2 == x_4) == false)) = true
                  then some (.bool false, M)
                  else (if (Int.tmod (IntKind.wrap .i64 x4) 17) < 0
                    then none
                    else (if (Int.tmod (IntKind.wrap .i64 x4) 17) < 0
                      then none
                      else (if ((Int.fdiv x0 (2 ^ (min (Int.toNat (Int.tmod (IntKind.wrap .i64 x4) 17)) (IntKind.bits .u16)))) == (Int.fdiv x2 (2 ^ (min (Int.toNat (Int.tmod (IntKind.wrap .i64 x4) 17)) (IntKind.bits .u16))))) = true
                        then (if (Int.tmod (IntKind.wrap .i64 x4) 17) < 0
                          then none
                          else (if (Int.tmod (IntKind.wrap .i64 x4) 17) < 0
                            then none
                            else (Option.bind (L.call 41 [.int .i64 x_2, .int .i64 (Int.tmod (IntKind.wrap .i64 x4) 17)] []) fun r_59 =>
                              (Option.bind (intOf? .i64 (some r_59.1)) fun x_60 =>
                              (Option.bind (L.call 41 [.int .i64 x_4, .int .i64 (Int.tmod (IntKind.wrap .i64 x4) 17)] []) fun r_61 =>
                              (Option.bind (intOf? .i64 (some r_61.1)) fun x_62 =>
                              (if ((x_60 == x_62) == ((Int.fdiv x1 (2 ^ (min (Int.toNat (Int.tmod (IntKind.wrap .i64 x4) 17)) (IntKind.bits .u16)))) == (Int.fdiv x3 (2 ^ (min (Int.toNat (Int.tmod (IntKind.wrap .i64 x4) 17)) (IntKind.bits .u16)))))) = true
                              then (Option.bind (L.call 41 [.int .i64 x_2, .int .i64 (Int.tmod (IntKind.wrap .i64 x4) 17)] []) fun r_63 =>
                                (Option.bind (intOf? .i64 (some r_63.1)) fun x_64 =>
                                (if (IntKind.wrap .i64 (2 * (Int.tmod (IntKind.wrap .i64 x4) 17))) < 0
                                then none
                                else (if (IntKind.wrap .i64 (1 * 2 ^ (min (Int.toNat (IntKind.wrap .i64 (2 * (Int.tmod (IntKind.wrap .i64 x4) 17)))) (IntKind.bits .i64)))) = 0
                                  then none
                                  else (if (x_64 == (IntKind.wrap .i64 (Int.tdiv x_2 (IntKind.wrap .i64 (1 * 2 ^ (min (Int.toNat (IntKind.wrap .i64 (2 * (Int.tmod (IntKind.wrap .i64 x4) 17)))) (IntKind.bits .i64))))))) = true
                                    then (Option.bind (L.call 42 [] []) fun r_65 =>
                                      (Option.bind (boolOf? (some r_65.1)) fun q_66 =>
                                      some (.bool q_66, M)))
                                    else some (.bool false, M))))))
                              else some (.bool false, M))))))))
                        else (Option.bind (L.call 41 [.int .i64 x_2, .int .i64 (Int.tmod (IntKind.wrap .i64 x4) 17)] []) fun r_67 =>
                          (Option.bind (intOf? .i64 (some r_67.1)) fun x_68 =>
                          (Option.bind (L.call 41 [.int .i64 x_4, .int .i64 (Int.tmod (IntKind.wrap .i64 x4) 17)] []) fun r_69 =>
                          (Option.bind (intOf? .i64 (some r_69.1)) fun x_70 =>
                          (if ((x_68 == x_70) == false) = true
                          then (Option.bind (L.call 41 [.int .i64 x_2, .int .i64 (Int.tmod (IntKind.wrap .i64 x4) 17)] []) fun r_71 =>
                            (Option.bind (intOf? .i64 (some r_71.1)) fun x_72 =>
                            (if (IntKind.wrap .i64 (2 * (Int.tmod (IntKind.wrap .i64 x4) 17))) < 0
                            then none
                            else (if (IntKind.wrap .i64 (1 * 2 ^ (min (Int.toNat (IntKind.wrap .i64 (2 * (Int.tmod (IntKind.wrap .i64 x4) 17)))) (IntKind.bits .i64)))) = 0
                              then none
                              else (if (x_72 == (IntKind.wrap .i64 (Int.tdiv x_2 (IntKind.wrap .i64 (1 * 2 ^ (min (Int.toNat (IntKind.wrap .i64 (2 * (Int.tmod (IntKind.wrap .i64 x4) 17)))) (IntKind.bits .i64))))))) = true
                                then (Option.bind (L.call 42 [] []) fun r_73 =>
                                  (Option.bind (boolOf? (some r_73.1)) fun q_74 =>
                                  some (.bool q_74, M)))
                                else some (.bool false, M))))))
                          else some (.bool false, M))))))))))))
            else (if (x0 == x2) = true
              then (if (!((x_2 == x_4) == (x1 == x3))) = true
                then some (.bool false, M)
                else (if (Int.tmod (IntKind.wrap .i64 x4) 17) < 0
                  then none
                  else (if (Int.tmod (IntKind.wrap .i64 x4) 17) < 0
                    then none
                    else (if ((Int.fdiv x0 (2 ^ (min (Int.toNat (Int.tmod (IntKind.wrap .i64 x4) 17)) (IntKind.bits .u16)))) == (Int.fdiv x2 (2 ^ (min (Int.toNat (Int.tmod (IntKind.wrap .i64 x4) 17)) (IntKind.bits .u16))))) = true
                      then (if (Int.tmod (IntKind.wrap .i64 x4) 17) < 0
                        then none
                        else (if (Int.tmod (IntKind.wrap .i64 x4) 17) < 0
                          then none
                          else (Option.bind (L.call 41 [.int .i64 x_2, .int .i64 (Int.tmod (IntKind.wrap .i64 x4) 17)] []) fun r_75 =>
                            (Option.bind (intOf? .i64 (some r_75.1)) fun x_76 =>
                            (Option.bind (L.call 41 [.int .i64 x_4, .int .i64 (Int.tmod (IntKind.wrap .i64 x4) 17)] []) fun r_77 =>
                            (Option.bind (intOf? .i64 (some r_77.1)) fun x_78 =>
                            (if ((x_76 == x_78) == ((Int.fdiv x1 (2 ^ (min (Int.toNat (Int.tmod (IntKind.wrap .i64 x4) 17)) (IntKind.bits .u16)))) == (Int.fdiv x3 (2 ^ (min (Int.toNat (Int.tmod (IntKind.wrap .i64 x4) 17)) (IntKind.bits .u16)))))) = true
                            then (Option.bind (L.call 41 [.int .i64 x_2, .int .i64 (Int.tmod (IntKind.wrap .i64 x4) 17)] []) fun r_79 =>
                              (Option.bind (intOf? .i64 (some r_79.1)) fun x_80 =>
                              (if (IntKind.wrap .i64 (2 * (Int.tmod (IntKind.wrap .i64 x4) 17))) < 0
                              then none
                              else (if (IntKind.wrap .i64 (1 * 2 ^ (min (Int.toNat (IntKind.wrap .i64 (2 * (Int.tmod (IntKind.wrap .i64 x4) 17)))) (IntKind.bits .i64)))) = 0
                                then none
                                else (if (x_80 == (IntKind.wrap .i64 (Int.tdiv x_2 (IntKind.wrap .i64 (1 * 2 ^ (min (Int.toNat (IntKind.wrap .i64 (2 * (Int.tmod (IntKind.wrap .i64 x4) 17)))) (IntKind.bits .i64))))))) = true
                                  then (Option.bind (L.call 42 [] []) fun r_81 =>
                                    (Option.bind (boolOf? (some r_81.1)) fun q_82 =>
                                    some (.bool q_82, M)))
                                  else some (.bool false, M))))))
                            else some (.bool false, M))))))))
                      else (Option.bind (L.call 41 [.int .i64 x_2, .int .i64 (Int.tmod (IntKind.wrap .i64 x4) 17)] []) fun r_83 =>
                        (Option.bind (intOf? .i64 (some r_83.1)) fun x_84 =>
                        (Option.bind (L.call 41 [.int .i64 x_4, .int .i64 (Int.tmod (IntKind.wrap .i64 x4) 17)] []) fun r_85 =>
                        (Option.bind (intOf? .i64 (some r_85.1)) fun x_86 =>
                        (if ((x_84 == x_86) == false) = true
                        then (Option.bind (L.call 41 [.int .i64 x_2, .int .i64 (Int.tmod (IntKind.wrap .i64 x4) 17)] []) fun r_87 =>
                          (Option.bind (intOf? .i64 (some r_87.1)) fun x_88 =>
                          (if (IntKind.wrap .i64 (2 * (Int.tmod (IntKind.wrap .i64 x4) 17))) < 0
                          then none
                          else (if (IntKind.wrap .i64 (1 * 2 ^ (min (Int.toNat (IntKind.wrap .i64 (2 * (Int.tmod (IntKind.wrap .i64 x4) 17)))) (IntKind.bits .i64)))) = 0
                            then none
                            else (if (x_88 == (IntKind.wrap .i64 (Int.tdiv x_2 (IntKind.wrap .i64 (1 * 2 ^ (min (Int.toNat (IntKind.wrap .i64 (2 * (Int.tmod (IntKind.wrap .i64 x4) 17)))) (IntKind.bits .i64))))))) = true
                              then (Option.bind (L.call 42 [] []) fun r_89 =>
                                (Option.bind (boolOf? (some r_89.1)) fun q_90 =>
                                some (.bool q_90, M)))
                              else some (.bool false, M))))))
                        else some (.bool false, M))))))))))
              else (if (!((x_2 == x_4) == false)) = true
                then some (.bool false, M)
                else (if (Int.tmod (IntKind.wrap .i64 x4) 17) < 0
                  then none
                  else (if (Int.tmod (IntKind.wrap .i64 x4) 17) < 0
                    then none
                    else (if ((Int.fdiv x0 (2 ^ (min (Int.toNat (Int.tmod (IntKind.wrap .i64 x4) 17)) (IntKind.bits .u16)))) == (Int.fdiv x2 (2 ^ (min (Int.toNat (Int.tmod (IntKind.wrap .i64 x4) 17)) (IntKind.bits .u16))))) = true
                      then (if (Int.tmod (IntKind.wrap .i64 x4) 17) < 0
                        then none
                        else (if (Int.tmod (IntKind.wrap .i64 x4) 17) < 0
                          then none
                          else (Option.bind (L.call 41 [.int .i64 x_2, .int .i64 (Int.tmod (IntKind.wrap .i64 x4) 17)] []) fun r_91 =>
                            (Option.bind (intOf? .i64 (some r_91.1)) fun x_92 =>
                            (Option.bind (L.call 41 [.int .i64 x_4, .int .i64 (Int.tmod (IntKind.wrap .i64 x4) 17)] []) fun r_93 =>
                            (Option.bind (intOf? .i64 (some r_93.1)) fun x_94 =>
                            (if ((x_92 == x_94) == ((Int.fdiv x1 (2 ^ (min (Int.toNat (Int.tmod (IntKind.wrap .i64 x4) 17)) (IntKind.bits .u16)))) == (Int.fdiv x3 (2 ^ (min (Int.toNat (Int.tmod (IntKind.wrap .i64 x4) 17)) (IntKind.bits .u16)))))) = true
                            then (Option.bind (L.call 41 [.int .i64 x_2, .int .i64 (Int.tmod (IntKind.wrap .i64 x4) 17)] []) fun r_95 =>
                              (Option.bind (intOf? .i64 (some r_95.1)) fun x_96 =>
                              (if (IntKind.wrap .i64 (2 * (Int.tmod (IntKind.wrap .i64 x4) 17))) < 0
                              then none
                              else (if (IntKind.wrap .i64 (1 * 2 ^ (min (Int.toNat (IntKind.wrap .i64 (2 * (Int.tmod (IntKind.wrap .i64 x4) 17)))) (IntKind.bits .i64)))) = 0
                                then none
                                else (if (x_96 == (IntKind.wrap .i64 (Int.tdiv x_2 (IntKind.wrap .i64 (1 * 2 ^ (min (Int.toNat (IntKind.wrap .i64 (2 * (Int.tmod (IntKind.wrap .i64 x4) 17)))) (IntKind.bits .i64))))))) = true
                                  then (Option.bind (L.call 42 [] []) fun r_97 =>
                                    (Option.bind (boolOf? (some r_97.1)) fun q_98 =>
                                    some (.bool q_98, M)))
                                  else some (.bool false, M))))))
                            else some (.bool false, M))))))))
                      else (Option.bind (L.call 41 [.int .i64 x_2, .int .i64 (Int.tmod (IntKind.wrap .i64 x4) 17)] []) fun r_99 =>
                        (Option.bind (intOf? .i64 (some r_99.1)) fun x_100 =>
                        (Option.bind (L.call 41 [.int .i64 x_4, .int .i64 (Int.tmod (IntKind.wrap .i64 x4) 17)] []) fun r_101 =>
                        (Option.bind (intOf? .i64 (some r_101.1)) fun x_102 =>
                        (if ((x_100 == x_102) == false) = true
                        then (Option.bind (L.call 41 [.int .i64 x_2, .int .i64 (Int.tmod (IntKind.wrap .i64 x4) 17)] []) fun r_103 =>
                          (Option.bind (intOf? .i64 (some r_103.1)) fun x_104 =>
                          (if (IntKind.wrap .i64 (2 * (Int.tmod (IntKind.wrap .i64 x4) 17))) < 0
                          then none
                          else (if (IntKind.wrap .i64 (1 * 2 ^ (min (Int.toNat (IntKind.wrap .i64 (2 * (Int.tmod (IntKind.wrap .i64 x4) 17)))) (IntKind.bits .i64)))) = 0
                            then none
                            else (if (x_104 == (IntKind.wrap .i64 (Int.tdiv x_2 (IntKind.wrap .i64 (1 * 2 ^ (min (Int.toNat (IntKind.wrap .i64 (2 * (Int.tmod (IntKind.wrap .i64 x4) 17)))) (IntKind.bits .i64))))))) = true
                              then (Option.bind (L.call 42 [] []) fun r_105 =>
                                (Option.bind (boolOf? (some r_105.1)) fun q_106 =>
                                some (.bool q_106, M)))
                              else some (.bool false, M))))))
                        else some (.bool false, M)))))))))))))))))))))))))) := by kernel_rfl
theorem E8 (L : Rec) (x0 : Int) (x1 : Int) (x2 : Int) (x3 : Int) (x4 : Int) (M : AMem) : enterF L a8 [.int .u16 x0, .int .u16 x1, .int .u16 x2, .int .u16 x3, .int .u8 x4] M =
  (Option.bind (L.call 39 [.int .i64 (IntKind.wrap .i64 x0), .int .i64 (IntKind.wrap .i64 x1)] []) fun r_1 =>
    (Option.bind (intOf? .i64 (some r_1.1)) fun x_2 =>
    (Option.bind (L.call 39 [.int .i64 (IntKind.wrap .i64 x2), .int .i64 (IntKind.wrap .i64 x3)] []) fun r_3 =>
    (Option.bind (intOf? .i64 (some r_3.1)) fun x_4 =>
    (Option.bind (L.call 40 [.int .i64 x_2] []) fun r_5 =>
    (Option.bind (tupOf? 2 r_5.1) fun cs_6 =>
    (Option.bind (cs_6[0]?) fun u_7 =>
    (Option.bind (intOf? .i64 (some u_7)) fun x_8 =>
    (Option.bind (cs_6[1]?) fun u_9 =>
    (Option.bind (intOf? .i64 (some u_9)) fun x_10 =>
    (if (x_8 != (IntKind.wrap .i64 x0)) = true
    then some (.bool false, M)
    else (if (x_10 != (IntKind.wrap .i64 x1)) = true
      then some (.bool false, M)
      else (if (decide (x_2 < 0)) = true
        then some (.bool false, M)
        else (if (decide (x_2 ≥ 4294967296)) = true
          then some (.bool false, M)
          else (if (decide (x0 ≤ x2)) = true
            then (if (decide (x1 ≤ x3)) = true
              then (if (decide (x_2 > x_4)) = true
                then some (.bool false, M)
                else (if (x0 == x2) = true
                  then (if (!((x_2 == x_4) == (x1 == x3))) = true
                    then some (.bool false, M)
                    else (if (Int.tmod (IntKind.wrap .i64 x4) 17) < 0
                      then none
                      else (if (Int.tmod (IntKind.wrap .i64 x4) 17) < 0
                        then none
                        else (if ((Int.fdiv x0 (2 ^ (min (Int.toNat (Int.tmod (IntKind.wrap .i64 x4) 17)) (IntKind.bits .u16)))) == (Int.fdiv x2 (2 ^ (min (Int.toNat (Int.tmod (IntKind.wrap .i64 x4) 17)) (IntKind.bits .u16))))) = true
                          then (if (Int.tmod (IntKind.wrap .i64 x4) 17) < 0
                            then none
                            else (if (Int.tmod (IntKind.wrap .i64 x4) 17) < 0
                              then none
                              else (Option.bind (L.call 41 [.int .i64 x_2, .int .i64 (Int.tmod (IntKind.wrap .i64 x4) 17)] []) fun r_11 =>
                                (Option.bind (intOf? .i64 (some r_11.1)) fun x_12 =>
                                (Option.bind (L.call 41 [.int .i64 x_4, .int .i64 (Int.tmod (IntKind.wrap .i64 x4) 17)] []) fun r_13 =>
                                (Option.bind (intOf? .i64 (some r_13.1)) fun x_14 =>
                                (if ((x_12 == x_14) == ((Int.fdiv x1 (2 ^ (min (Int.toNat (Int.tmod (IntKind.wrap .i64 x4) 17)) (IntKind.bits .u16)))) == (Int.fdiv x3 (2 ^ (min (Int.toNat (Int.tmod (IntKind.wrap .i64 x4) 17)) (IntKind.bits .u16)))))) = true
                                then (Option.bind (L.call 41 [.int .i64 x_2, .int .i64 (Int.tmod (IntKind.wrap .i64 x4) 17)] []) fun r_15 =>
                                  (Option.bind (intOf? .i64 (some r_15.1)) fun x_16 =>
                                  (if (IntKind.wrap .i64 (2 * (Int.tmod (IntKind.wrap .i64 x4) 17))) < 0
                                  then none
                                  else (if (IntKind.wrap .i64 (1 * 2 ^ (min (Int.toNat (IntKind.wrap .i64 (2 * (Int.tmod (IntKind.wrap .i64 x4) 17)))) (IntKind.bits .i64)))) = 0
                                    then none
                                    else (if (x_16 == (IntKind.wrap .i64 (Int.tdiv x_2 (IntKind.wrap .i64 (1 * 2 ^ (min (Int.toNat (IntKind.wrap .i64 (2 * (Int.tmod (IntKind.wrap .i64 x4) 17)))) (IntKind.bits .i64))))))) = true
                                      then (Option.bind (L.call 42 [] []) fun r_17 =>
                                        (Option.bind (boolOf? (some r_17.1)) fun q_18 =>
                                        some (.bool q_18, M)))
                                      else some (.bool false, M))))))
                                else some (.bool false, M))))))))
                          else (Option.bind (L.call 41 [.int .i64 x_2, .int .i64 (Int.tmod (IntKind.wrap .i64 x4) 17)] []) fun r_19 =>
                            (Option.bind (intOf? .i64 (some r_19.1)) fun x_20 =>
                            (Option.bind (L.call 41 [.int .i64 x_4, .int .i64 (Int.tmod (IntKind.wrap .i64 x4) 17)] []) fun r_21 =>
                            (Option.bind (intOf? .i64 (some r_21.1)) fun x_22 =>
                            (if ((x_20 == x_22) == false) = true
                            then (Option.bind (L.call 41 [.int .i64 x_2, .int .i64 (Int.tmod (IntKind.wrap .i64 x4) 17)] []) fun r_23 =>
                              (Option.bind (intOf? .i64 (some r_23.1)) fun x_24 =>
                              (if (IntKind.wrap .i64 (2 * (Int.tmod (IntKind.wrap .i64 x4) 17))) < 0
                              then none
                              else (if (IntKind.wrap .i64 (1 * 2 ^ (min (Int.toNat (IntKind.wrap .i64 (2 * (Int.tmod (IntKind.wrap .i64 x4) 17)))) (IntKind.bits .i64)))) = 0
                                then none
                                else (if (x_24 == (IntKind.wrap .i64 (Int.tdiv x_2 (IntKind.wrap .i64 (1 * 2 ^ (min (Int.toNat (IntKind.wrap .i64 (2 * (Int.tmod (IntKind.wrap .i64 x4) 17)))) (IntKind.bits .i64))))))) = true
                                  then (Option.bind (L.call 42 [] []) fun r_25 =>
                                    (Option.bind (boolOf? (some r_25.1)) fun q_26 =>
                                    some (.bool q_26, M)))
                                  else some (.bool false, M))))))
                            else some (.bool false, M))))))))))
                  else (if (!((x_2 == x_4) == false)) = true
                    then some (.bool false, M)
                    else (if (Int.tmod (IntKind.wrap .i64 x4) 17) < 0
                      then none
                      else (if (Int.tmod (IntKind.wrap .i64 x4) 17) < 0
                        then none
                        else (if ((Int.fdiv x0 (2 ^ (min (Int.toNat (Int.tmod (IntKind.wrap .i64 x4) 17)) (IntKind.bits .u16)))) == (Int.fdiv x2 (2 ^ (min (Int.toNat (Int.tmod (IntKind.wrap .i64 x4) 17)) (IntKind.bits .u16))))) = true
                          then (if (Int.tmod (IntKind.wrap .i64 x4) 17) < 0
                            then none
                            else (if (Int.tmod (IntKind.wrap .i64 x4) 17) < 0
                              then none
                              else (Option.bind (L.call 41 [.int .i64 x_2, .int .i64 (Int.tmod (IntKind.wrap .i64 x4) 17)] []) fun r_27 =>
                                (Option.bind (intOf? .i64 (some r_27.1)) fun x_28 =>
                                (Option.bind (L.call 41 [.int .i64 x_4, .int .i64 (Int.tmod (IntKind.wrap .i64 x4) 17)] []) fun r_29 =>
                                (Option.bind (intOf? .i64 (some r_29.1)) fun x_30 =>
                                (if ((x_28 == x_30) == ((Int.fdiv x1 (2 ^ (min (Int.toNat (Int.tmod (IntKind.wrap .i64 x4) 17)) (IntKind.bits .u16)))) == (Int.fdiv x3 (2 ^ (min (Int.toNat (Int.tmod (IntKind.wrap .i64 x4) 17)) (IntKind.bits .u16)))))) = true
                                then (Option.bind (L.call 41 [.int .i64 x_2, .int .i64 (Int.tmod (IntKind.wrap .i64 x4) 17)] []) fun r_31 =>
                                  (Option.bind (intOf? .i64 (some r_31.1)) fun x_32 =>
                                  (if (IntKind.wrap .i64 (2 * (Int.tmod (IntKind.wrap .i64 x4) 17))) < 0
                                  then none
                                  else (if (IntKind.wrap .i64 (1 * 2 ^ (min (Int.toNat (IntKind.wrap .i64 (2 * (Int.tmod (IntKind.wrap .i64 x4) 17)))) (IntKind.bits .i64)))) = 0
                                    then none
                                    else (if (x_32 == (IntKind.wrap .i64 (Int.tdiv x_2 (IntKind.wrap .i64 (1 * 2 ^ (min (Int.toNat (IntKind.wrap .i64 (2 * (Int.tmod (IntKind.wrap .i64 x4) 17)))) (IntKind.bits .i64))))))) = true
                                      then (Option.bind (L.call 42 [] []) fun r_33 =>
                                        (Option.bind (boolOf? (some r_33.1)) fun q_34 =>
                                        some (.bool q_34, M)))
                                      else some (.bool false, M))))))
                                else some (.bool false, M))))))))
                          else (Option.bind (L.call 41 [.int .i64 x_2, .int .i64 (Int.tmod (IntKind.wrap .i64 x4) 17)] []) fun r_35 =>
                            (Option.bind (intOf? .i64 (some r_35.1)) fun x_36 =>
                            (Option.bind (L.call 41 [.int .i64 x_4, .int .i64 (Int.tmod (IntKind.wrap .i64 x4) 17)] []) fun r_37 =>
                            (Option.bind (intOf? .i64 (some r_37.1)) fun x_38 =>
                            (if ((x_36 == x_38) == false) = true
                            then (Option.bind (L.call 41 [.int .i64 x_2, .int .i64 (Int.tmod (IntKind.wrap .i64 x4) 17)] []) fun r_39 =>
                              (Option.bind (intOf? .i64 (some r_39.1)) fun x_40 =>
                              (if (IntKind.wrap .i64 (2 * (Int.tmod (IntKind.wrap .i64 x4) 17))) < 0
                              then none
                              else (if (IntKind.wrap .i64 (1 * 2 ^ (min (Int.toNat (IntKind.wrap .i64 (2 * (Int.tmod (IntKind.wrap .i64 x4) 17)))) (IntKind.bits .i64)))) = 0
                                then none
                                else (if (x_40 == (IntKind.wrap .i64 (Int.tdiv x_2 (IntKind.wrap .i64 (1 * 2 ^ (min (Int.toNat (IntKind.wrap .i64 (2 * (Int.tmod (IntKind.wrap .i64 x4) 17)))) (IntKind.bits .i64))))))) = true
                                  then (Option.bind (L.call 42 [] []) fun r_41 =>
                                    (Option.bind (boolOf? (some r_41.1)) fun q_42 =>
                                    some (.bool q_42, M)))
                                  else some (.bool false, M))))))
                            else some (.bool false, M))))))))))))
              else (if (x0 == x2) = true
                then (if (!((x_2 == x_4) == (x1 == x3))) = true
                  then some (.bool false, M)
                  else (if (Int.tmod (IntKind.wrap .i64 x4) 17) < 0
                    then none
                    else (if (Int.tmod (IntKind.wrap .i64 x4) 17) < 0
                      then none
                      else (if ((Int.fdiv x0 (2 ^ (min (Int.toNat (Int.tmod (IntKind.wrap .i64 x4) 17)) (IntKind.bits .u16)))) == (Int.fdiv x2 (2 ^ (min (Int.toNat (Int.tmod (IntKind.wrap .i64 x4) 17)) (IntKind.bits .u16))))) = true
                        then (if (Int.tmod (IntKind.wrap .i64 x4) 17) < 0
                          then none
                          else (if (Int.tmod (IntKind.wrap .i64 x4) 17) < 0
                            then none
                            else (Option.bind (L.call 41 [.int .i64 x_2, .int .i64 (Int.tmod (IntKind.wrap .i64 x4) 17)] []) fun r_43 =>
                              (Option.bind (intOf? .i64 (some r_43.1)) fun x_44 =>
                              (Option.bind (L.call 41 [.int .i64 x_4, .int .i64 (Int.tmod (IntKind.wrap .i64 x4) 17)] []) fun r_45 =>
                              (Option.bind (intOf? .i64 (some r_45.1)) fun x_46 =>
                              (if ((x_44 == x_46) == ((Int.fdiv x1 (2 ^ (min (Int.toNat (Int.tmod (IntKind.wrap .i64 x4) 17)) (IntKind.bits .u16)))) == (Int.fdiv x3 (2 ^ (min (Int.toNat (Int.tmod (IntKind.wrap .i64 x4) 17)) (IntKind.bits .u16)))))) = true
                              then (Option.bind (L.call 41 [.int .i64 x_2, .int .i64 (Int.tmod (IntKind.wrap .i64 x4) 17)] []) fun r_47 =>
                                (Option.bind (intOf? .i64 (some r_47.1)) fun x_48 =>
                                (if (IntKind.wrap .i64 (2 * (Int.tmod (IntKind.wrap .i64 x4) 17))) < 0
                                then none
                                else (if (IntKind.wrap .i64 (1 * 2 ^ (min (Int.toNat (IntKind.wrap .i64 (2 * (Int.tmod (IntKind.wrap .i64 x4) 17)))) (IntKind.bits .i64)))) = 0
                                  then none
                                  else (if (x_48 == (IntKind.wrap .i64 (Int.tdiv x_2 (IntKind.wrap .i64 (1 * 2 ^ (min (Int.toNat (IntKind.wrap .i64 (2 * (Int.tmod (IntKind.wrap .i64 x4) 17)))) (IntKind.bits .i64))))))) = true
                                    then (Option.bind (L.call 42 [] []) fun r_49 =>
                                      (Option.bind (boolOf? (some r_49.1)) fun q_50 =>
                                      some (.bool q_50, M)))
                                    else some (.bool false, M))))))
                              else some (.bool false, M))))))))
                        else (Option.bind (L.call 41 [.int .i64 x_2, .int .i64 (Int.tmod (IntKind.wrap .i64 x4) 17)] []) fun r_51 =>
                          (Option.bind (intOf? .i64 (some r_51.1)) fun x_52 =>
                          (Option.bind (L.call 41 [.int .i64 x_4, .int .i64 (Int.tmod (IntKind.wrap .i64 x4) 17)] []) fun r_53 =>
                          (Option.bind (intOf? .i64 (some r_53.1)) fun x_54 =>
                          (if ((x_52 == x_54) == false) = true
                          then (Option.bind (L.call 41 [.int .i64 x_2, .int .i64 (Int.tmod (IntKind.wrap .i64 x4) 17)] []) fun r_55 =>
                            (Option.bind (intOf? .i64 (some r_55.1)) fun x_56 =>
                            (if (IntKind.wrap .i64 (2 * (Int.tmod (IntKind.wrap .i64 x4) 17))) < 0
                            then none
                            else (if (IntKind.wrap .i64 (1 * 2 ^ (min (Int.toNat (IntKind.wrap .i64 (2 * (Int.tmod (IntKind.wrap .i64 x4) 17)))) (IntKind.bits .i64)))) = 0
                              then none
                              else (if (x_56 == (IntKind.wrap .i64 (Int.tdiv x_2 (IntKind.wrap .i64 (1 * 2 ^ (min (Int.toNat (IntKind.wrap .i64 (2 * (Int.tmod (IntKind.wrap .i64 x4) 17)))) (IntKind.bits .i64))))))) = true
                                then (Option.bind (L.call 42 [] []) fun r_57 =>
                                  (Option.bind (boolOf? (some r_57.1)) fun q_58 =>
                                  some (.bool q_58, M)))
                                else some (.bool false, M))))))
                          else some (.bool false, M))))))))))
                else (if (!((x_2 == x_4) == false)) = true
                  then some (.bool false, M)
                  else (if (Int.tmod (IntKind.wrap .i64 x4) 17) < 0
                    then none
                    else (if (Int.tmod (IntKind.wrap .i64 x4) 17) < 0
                      then none
                      else (if ((Int.fdiv x0 (2 ^ (min (Int.toNat (Int.tmod (IntKind.wrap .i64 x4) 17)) (IntKind.bits .u16)))) == (Int.fdiv x2 (2 ^ (min (Int.toNat (Int.tmod (IntKind.wrap .i64 x4) 17)) (IntKind.bits .u16))))) = true
                        then (if (Int.tmod (IntKind.wrap .i64 x4) 17) < 0
                          then none
                          else (if (Int.tmod (IntKind.wrap .i64 x4) 17) < 0
                            then none
                            else (Option.bind (L.call 41 [.int .i64 x_2, .int .i64 (Int.tmod (IntKind.wrap .i64 x4) 17)] []) fun r_59 =>
                              (Option.bind (intOf? .i64 (some r_59.1)) fun x_60 =>
                              (Option.bind (L.call 41 [.int .i64 x_4, .int .i64 (Int.tmod (IntKind.wrap .i64 x4) 17)] []) fun r_61 =>
                              (Option.bind (intOf? .i64 (some r_61.1)) fun x_62 =>
                              (if ((x_60 == x_62) == ((Int.fdiv x1 (2 ^ (min (Int.toNat (Int.tmod (IntKind.wrap .i64 x4) 17)) (IntKind.bits .u16)))) == (Int.fdiv x3 (2 ^ (min (Int.toNat (Int.tmod (IntKind.wrap .i64 x4) 17)) (IntKind.bits .u16)))))) = true
                              then (Option.bind (L.call 41 [.int .i64 x_2, .int .i64 (Int.tmod (IntKind.wrap .i64 x4) 17)] []) fun r_63 =>
                                (Option.bind (intOf? .i64 (some r_63.1)) fun x_64 =>
                                (if (IntKind.wrap .i64 (2 * (Int.tmod (IntKind.wrap .i64 x4) 17))) < 0
                                then none
                                else (if (IntKind.wrap .i64 (1 * 2 ^ (min (Int.toNat (IntKind.wrap .i64 (2 * (Int.tmod (IntKind.wrap .i64 x4) 17)))) (IntKind.bits .i64)))) = 0
                                  then none
                                  else (if (x_64 == (IntKind.wrap .i64 (Int.tdiv x_2 (IntKind.wrap .i64 (1 * 2 ^ (min (Int.toNat (IntKind.wrap .i64 (2 * (Int.tmod (IntKind.wrap .i64 x4) 17)))) (IntKind.bits .i64))))))) = true
                                    then (Option.bind (L.call 42 [] []) fun r_65 =>
                                      (Option.bind (boolOf? (some r_65.1)) fun q_66 =>
                                      some (.bool q_66, M)))
                                    else some (.bool false, M))))))
                              else some (.bool false, M))))))))
                        else (Option.bind (L.call 41 [.int .i64 x_2, .int .i64 (Int.tmod (IntKind.wrap .i64 x4) 17)] []) fun r_67 =>
                          (Option.bind (intOf? .i64 (some r_67.1)) fun x_68 =>
                          (Option.bind (L.call 41 [.int .i64 x_4, .int .i64 (Int.tmod (IntKind.wrap .i64 x4) 17)] []) fun r_69 =>
                          (Option.bind (intOf? .i64 (some r_69.1)) fun x_70 =>
                          (if ((x_68 == x_70) == false) = true
                          then (Option.bind (L.call 41 [.int .i64 x_2, .int .i64 (Int.tmod (IntKind.wrap .i64 x4) 17)] []) fun r_71 =>
                            (Option.bind (intOf? .i64 (some r_71.1)) fun x_72 =>
                            (if (IntKind.wrap .i64 (2 * (Int.tmod (IntKind.wrap .i64 x4) 17))) < 0
                            then none
                            else (if (IntKind.wrap .i64 (1 * 2 ^ (min (Int.toNat (IntKind.wrap .i64 (2 * (Int.tmod (IntKind.wrap .i64 x4) 17)))) (IntKind.bits .i64)))) = 0
                              then none
                              else (if (x_72 == (IntKind.wrap .i64 (Int.tdiv x_2 (IntKind.wrap .i64 (1 * 2 ^ (min (Int.toNat (IntKind.wrap .i64 (2 * (Int.tmod (IntKind.wrap .i64 x4) 17)))) (IntKind.bits .i64))))))) = true
                                then (Option.bind (L.call 42 [] []) fun r_73 =>
                                  (Option.bind (boolOf? (some r_73.1)) fun q_74 =>
                                  some (.bool q_74, M)))
                                else some (.bool false, M))))))
                          else some (.bool false, M))))))))))))
            else (if (x0 == x2) = true
              then (if (!((x_2 == x_4) == (x1 == x3))) = true
                then some (.bool false, M)
                else (if (Int.tmod (IntKind.wrap .i64 x4) 17) < 0
                  then none
                  else (if (Int.tmod (IntKind.wrap .i64 x4) 17) < 0
                    then none
                    else (if ((Int.fdiv x0 (2 ^ (min (Int.toNat (Int.tmod (IntKind.wrap .i64 x4) 17)) (IntKind.bits .u16)))) == (Int.fdiv x2 (2 ^ (min (Int.toNat (Int.tmod (IntKind.wrap .i64 x4) 17)) (IntKind.bits .u16))))) = true
                      then (if (Int.tmod (IntKind.wrap .i64 x4) 17) < 0
                        then none
                        else (if (Int.tmod (IntKind.wrap .i64 x4) 17) < 0
                          then none
                          else (Option.bind (L.call 41 [.int .i64 x_2, .int .i64 (Int.tmod (IntKind.wrap .i64 x4) 17)] []) fun r_75 =>
                            (Option.bind (intOf? .i64 (some r_75.1)) fun x_76 =>
                            (Option.bind (L.call 41 [.int .i64 x_4, .int .i64 (Int.tmod (IntKind.wrap .i64 x4) 17)] []) fun r_77 =>
                            (Option.bind (intOf? .i64 (some r_77.1)) fun x_78 =>
                            (if ((x_76 == x_78) == ((Int.fdiv x1 (2 ^ (min (Int.toNat (Int.tmod (IntKind.wrap .i64 x4) 17)) (IntKind.bits .u16)))) == (Int.fdiv x3 (2 ^ (min (Int.toNat (Int.tmod (IntKind.wrap .i64 x4) 17)) (IntKind.bits .u16)))))) = true
                            then (Option.bind (L.call 41 [.int .i64 x_2, .int .i64 (Int.tmod (IntKind.wrap .i64 x4) 17)] []) fun r_79 =>
                              (Option.bind (intOf? .i64 (some r_79.1)) fun x_80 =>
                              (if (IntKind.wrap .i64 (2 * (Int.tmod (IntKind.wrap .i64 x4) 17))) < 0
                              then none
                              else (if (IntKind.wrap .i64 (1 * 2 ^ (min (Int.toNat (IntKind.wrap .i64 (2 * (Int.tmod (IntKind.wrap .i64 x4) 17)))) (IntKind.bits .i64)))) = 0
                                then none
                                else (if (x_80 == (IntKind.wrap .i64 (Int.tdiv x_2 (IntKind.wrap .i64 (1 * 2 ^ (min (Int.toNat (IntKind.wrap .i64 (2 * (Int.tmod (IntKind.wrap .i64 x4) 17)))) (IntKind.bits .i64))))))) = true
                                  then (Option.bind (L.call 42 [] []) fun r_81 =>
                                    (Option.bind (boolOf? (some r_81.1)) fun q_82 =>
                                    some (.bool q_82, M)))
                                  else some (.bool false, M))))))
                            else some (.bool false, M))))))))
                      else (Option.bind (L.call 41 [.int .i64 x_2, .int .i64 (Int.tmod (IntKind.wrap .i64 x4) 17)] []) fun r_83 =>
                        (Option.bind (intOf? .i64 (some r_83.1)) fun x_84 =>
                        (Option.bind (L.call 41 [.int .i64 x_4, .int .i64 (Int.tmod (IntKind.wrap .i64 x4) 17)] []) fun r_85 =>
                        (Option.bind (intOf? .i64 (some r_85.1)) fun x_86 =>
                        (if ((x_84 == x_86) == false) = true
                        then (Option.bind (L.call 41 [.int .i64 x_2, .int .i64 (Int.tmod (IntKind.wrap .i64 x4) 17)] []) fun r_87 =>
                          (Option.bind (intOf? .i64 (some r_87.1)) fun x_88 =>
                          (if (IntKind.wrap .i64 (2 * (Int.tmod (IntKind.wrap .i64 x4) 17))) < 0
                          then none
                          else (if (IntKind.wrap .i64 (1 * 2 ^ (min (Int.toNat (IntKind.wrap .i64 (2 * (Int.tmod (IntKind.wrap .i64 x4) 17)))) (IntKind.bits .i64)))) = 0
                            then none
                            else (if (x_88 == (IntKind.wrap .i64 (Int.tdiv x_2 (IntKind.wrap .i64 (1 * 2 ^ (min (Int.toNat (IntKind.wrap .i64 (2 * (Int.tmod (IntKind.wrap .i64 x4) 17)))) (IntKind.bits .i64))))))) = true
                              then (Option.bind (L.call 42 [] []) fun r_89 =>
                                (Option.bind (boolOf? (some r_89.1)) fun q_90 =>
                                some (.bool q_90, M)))
                              else some (.bool false, M))))))
                        else some (.bool false, M))))))))))
              else (if (!((x_2 == x_4) == false)) = true
                then some (.bool false, M)
                else (if (Int.tmod (IntKind.wrap .i64 x4) 17) < 0
                  then none
                  else (if (Int.tmod (IntKind.wrap .i64 x4) 17) < 0
                    then none
                    else (if ((Int.fdiv x0 (2 ^ (min (Int.toNat (Int.tmod (IntKind.wrap .i64 x4) 17)) (IntKind.bits .u16)))) == (Int.fdiv x2 (2 ^ (min (Int.toNat (Int.tmod (IntKind.wrap .i64 x4) 17)) (IntKind.bits .u16))))) = true
                      then (if (Int.tmod (IntKind.wrap .i64 x4) 17) < 0
                        then none
                        else (if (Int.tmod (IntKind.wrap .i64 x4) 17) < 0
                          then none
                          else (Option.bind (L.call 41 [.int .i64 x_2, .int .i64 (Int.tmod (IntKind.wrap .i64 x4) 17)] []) fun r_91 =>
                            (Option.bind (intOf? .i64 (some r_91.1)) fun x_92 =>
                            (Option.bind (L.call 41 [.int .i64 x_4, .int .i64 (Int.tmod (IntKind.wrap .i64 x4) 17)] []) fun r_93 =>
                            (Option.bind (intOf? .i64 (some r_93.1)) fun x_94 =>
                            (if ((x_92 == x_94) == ((Int.fdiv x1 (2 ^ (min (Int.toNat (Int.tmod (IntKind.wrap .i64 x4) 17)) (IntKind.bits .u16)))) == (Int.fdiv x3 (2 ^ (min (Int.toNat (Int.tmod (IntKind.wrap .i64 x4) 17)) (IntKind.bits .u16)))))) = true
                            then (Option.bind (L.call 41 [.int .i64 x_2, .int .i64 (Int.tmod (IntKind.wrap .i64 x4) 17)] []) fun r_95 =>
                              (Option.bind (intOf? .i64 (some r_95.1)) fun x_96 =>
                              (if (IntKind.wrap .i64 (2 * (Int.tmod (IntKind.wrap .i64 x4) 17))) < 0
                              then none
                              else (if (IntKind.wrap .i64 (1 * 2 ^ (min (Int.toNat (IntKind.wrap .i64 (2 * (Int.tmod (IntKind.wrap .i64 x4) 17)))) (IntKind.bits .i64)))) = 0
                                then none
                                else (if (x_96 == (IntKind.wrap .i64 (Int.tdiv x_2 (IntKind.wrap .i64 (1 * 2 ^ (min (Int.toNat (IntKind.wrap .i64 (2 * (Int.tmod (IntKind.wrap .i64 x4) 17)))) (IntKind.bits .i64))))))) = true
                                  then (Option.bind (L.call 42 [] []) fun r_97 =>
                                    (Option.bind (boolOf? (some r_97.1)) fun q_98 =>
                                    some (.bool q_98, M)))
                                  else some (.bool false, M))))))
                            else some (.bool false, M))))))))
                      else (Option.bind (L.call 41 [.int .i64 x_2, .int .i64 (Int.tmod (IntKind.wrap .i64 x4) 17)] []) fun r_99 =>
                        (Option.bind (intOf? .i64 (some r_99.1)) fun x_100 =>
                        (Option.bind (L.call 41 [.int .i64 x_4, .int .i64 (Int.tmod (IntKind.wrap .i64 x4) 17)] []) fun r_101 =>
                        (Option.bind (intOf? .i64 (some r_101.1)) fun x_102 =>
                        (if ((x_100 == x_102) == false) = true
                        then (Option.bind (L.call 41 [.int .i64 x_2, .int .i64 (Int.tmod (IntKind.wrap .i64 x4) 17)] []) fun r_103 =>
                          (Option.bind (intOf? .i64 (some r_103.1)) fun x_104 =>
                          (if (IntKind.wrap .i64 (2 * (Int.tmod (IntKind.wrap .i64 x4) 17))) < 0
                          then none
                          else (if (IntKind.wrap .i64 (1 * 2 ^ (min (Int.toNat (IntKind.wrap .i64 (2 * (Int.tmod (IntKind.wrap .i64 x4) 17)))) (IntKind.bits .i64)))) = 0
                            then none
                            else (if (x_104 == (IntKind.wrap .i64 (Int.tdiv x_2 (IntKind.wrap .i64 (1 * 2 ^ (min (Int.toNat (IntKind.wrap .i64 (2 * (Int.tmod (IntKind.wrap .i64 x4) 17)))) (IntKind.bits .i64))))))) = true
                              then (Option.bind (L.call 42 [] []) fun r_105 =>
                                (Option.bind (boolOf? (some r_105.1)) fun q_106 =>
                                some (.bool q_106, M)))
                              else some (.bool false, M))))))
                        else some (.bool false, M)))))))))))))))))))))))))) := Eq.mp (by kernel_rfl) (GE8 L  x0 x1 x2 x3 x4 M)
/-! #### skylightlaw46.MortonTells -/
noncomputable def k9_28 (L : Rec) : KT := blockK 0 (seqK (code L (.clear [4, 5, 6, 7, 8, 9, 10, 11, 12, 17, 18, 19, 20, 21, 22, 23, 24, 25, 26, 27, 28, 29, 30, 31, 32, 33, 34, 35, 36, 37, 38, 39, 40, 41, 42, 43, 44, 45, 46, 47, 48, 49, 50, 51, 52, 53, 54, 55, 56, 57, 58, 59, 60, 61, 62, 63, 64, 65, 66, 67, 68, 69, 70, 71, 72, 73, 74, 75, 76, 77, 78, 79, 80, 81, 82, 83, 84, 85, 86, 87, 88, 89, 90, 91, 92, 93, 94, 95, 96, 97, 98, 99, 100, 101, 102, 103, 104, 105, 106, 107, 108, 109, 110, 111, 112, 113, 114, 115, 116, 117, 118, 119, 120, 121, 122, 123, 124, 125, 126, 127, 128, 129, 130, 131, 132, 133, 134, 135, 136, 137, 138] c9_45) (retK [.tmp 12])) (retK [.tmp 12]))
def s9_28 (x0 : Int) (x1 : Int) (x2 : Int) (x3 : Int) (x4 : Int) (x13 : Int) (x14 : Int) (x15 : Int) (x16 : Int) (x17 : Option Addr) (x17n : Nat) (x17c : Nat) (x18 : Option Addr) (x18n : Nat) (x18c : Nat) (x19 : Option Addr) (x19n : Nat) (x19c : Nat) (x20 : Int) (M : AMem) : List Value := [.int .i64 x0, .int .i64 x1, .int .i64 x2, .int .i64 x3, .int .i64 x4, junk, junk, junk, junk, junk, junk, junk, junk, .int .i64 x13, .int .i64 x14, .int .i64 x15, .int .i64 x16, .slice x17 x17n x17c, .slice x18 x18n x18c, .slice x19 x19n x19c, .int .i64 x20, junk, junk, junk, junk, junk, junk, junk, junk, junk, junk, junk, junk, junk, junk, junk, junk, junk, junk, junk, junk, junk, junk, junk, junk, junk, junk, junk, junk, junk, junk, junk, junk, junk, junk, junk, junk, junk, junk, junk, junk, junk, junk, junk, junk, junk, junk, junk, junk, junk, junk, junk, junk, junk, junk, junk, junk, junk, junk, junk, junk, junk, junk, junk, junk, junk, junk, junk, junk, junk, junk, junk, junk, junk, junk, junk, junk, junk, junk, junk, junk, junk, junk, junk, junk, junk, junk, junk, junk, junk, junk, junk, junk, junk, junk, junk, junk, junk, junk, junk, junk, junk, junk, junk, junk, junk, junk, junk, junk, junk, junk, junk, junk, junk, junk, junk, junk, junk, junk]
theorem XP9_28 : ∃ P : Rec → Int → Int → Int → Int → Int → Int → Int → Int → Int → (Option Addr) → Nat → Nat → (Option Addr) → Nat → Nat → (Option Addr) → Nat → Nat → Int → AMem → Res, P = fun (L : Rec) (x0 : Int) (x1 : Int) (x2 : Int) (x3 : Int) (x4 : Int) (x13 : Int) (x14 : Int) (x15 : Int) (x16 : Int) (x17 : Option Addr) (x17n : Nat) (x17c : Nat) (x18 : Option Addr) (x18n : Nat) (x18c : Nat) (x19 : Option Addr) (x19n : Nat) (x19c : Nat) (x20 : Int) (M : AMem) => L.loop b9_28 (k9_28 L) (s9_28 x0 x1 x2 x3 x4 x13 x14 x15 x16 x17 x17n x17c x18 x18n x18c x19 x19n x19c x20 M) M := ⟨_, rfl⟩
noncomputable def P9_28 : Rec → Int → Int → Int → Int → Int → Int → Int → Int → Int → (Option Addr) → Nat → Nat → (Option Addr) → Nat → Nat → (Option Addr) → Nat → Nat → Int → AMem → Res := Classical.choose XP9_28
noncomputable def k9_44 (L : Rec) : KT := postK [5, 6, 7, 8, 9, 10, 11, 12, 21, 22, 23, 24, 25, 26, 27, 28, 29, 30, 31, 32, 33, 34, 35, 36, 37, 38, 39, 40, 41, 42, 43, 44, 45, 46, 47, 48, 49, 50, 51, 52, 53, 54, 55, 56, 57, 58, 59, 60, 61, 62, 63, 64, 65, 66, 67, 68, 69, 70, 71, 72, 73, 74, 75, 76, 77, 78, 79, 80, 81, 82, 83, 84, 85, 86, 87, 88, 89, 90, 91, 92, 93, 94, 95, 96, 97, 98, 99, 100, 101, 102, 103, 104, 105, 106, 107, 108, 109, 110, 111, 112, 113, 114, 115, 116, 117, 118, 119, 120, 121, 122, 123, 124, 125, 126, 127, 128, 129, 130, 131, 132, 133, 134, 135, 136, 137, 138] (loopK L b9_28 (blockK 0 (seqK (code L (.clear [4, 5, 6, 7, 8, 9, 10, 11, 12, 17, 18, 19, 20, 21, 22, 23, 24, 25, 26, 27, 28, 29, 30, 31, 32, 33, 34, 35, 36, 37, 38, 39, 40, 41, 42, 43, 44, 45, 46, 47, 48, 49, 50, 51, 52, 53, 54, 55, 56, 57, 58, 59, 60, 61, 62, 63, 64, 65, 66, 67, 68, 69, 70, 71, 72, 73, 74, 75, 76, 77, 78, 79, 80, 81, 82, 83, 84, 85, 86, 87, 88, 89, 90, 91, 92, 93, 94, 95, 96, 97, 98, 99, 100, 101, 102, 103, 104, 105, 106, 107, 108, 109, 110, 111, 112, 113, 114, 115, 116, 117, 118, 119, 120, 121, 122, 123, 124, 125, 126, 127, 128, 129, 130, 131, 132, 133, 134, 135, 136, 137, 138] c9_45) (retK [.tmp 12])) (retK [.tmp 12]))))
def s9_44 (x0 : Int) (x1 : Int) (x2 : Int) (x3 : Int) (x4 : Int) (x13 : Int) (x14 : Int) (x15 : Int) (x16 : Int) (x17 : Option Addr) (x17n : Nat) (x17c : Nat) (x18 : Option Addr) (x18n : Nat) (x18c : Nat) (x19 : Option Addr) (x19n : Nat) (x19c : Nat) (x20 : Int) (M : AMem) : List Value := [.int .i64 x0, .int .i64 x1, .int .i64 x2, .int .i64 x3, .int .i64 x4, junk, junk, junk, junk, junk, junk, junk, junk, .int .i64 x13, .int .i64 x14, .int .i64 x15, .int .i64 x16, .slice x17 x17n x17c, .slice x18 x18n x18c, .slice x19 x19n x19c, .int .i64 x20, junk, junk, junk, junk, junk, junk, junk, junk, junk, junk, junk, junk, junk, junk, junk, junk, junk, junk, junk, junk, junk, junk, junk, junk, junk, junk, junk, junk, junk, junk, junk, junk, junk, junk, junk, junk, junk, junk, junk, junk, junk, junk, junk, junk, junk, junk, junk, junk, junk, junk, junk, junk, junk, junk, junk, junk, junk, junk, junk, junk, junk, junk, junk, junk, junk, junk, junk, junk, junk, junk, junk, junk, junk, junk, junk, junk, junk, junk, junk, junk, junk, junk, junk, junk, junk, junk, junk, junk, junk, junk, junk, junk, junk, junk, junk, junk, junk, junk, junk, junk, junk, junk, junk, junk, junk, junk, junk, junk, junk, junk, junk, junk, junk, junk, junk, junk, junk, junk]
theorem XP9_44 : ∃ P : Rec → Int → Int → Int → Int → Int → Int → Int → Int → Int → (Option Addr) → Nat → Nat → (Option Addr) → Nat → Nat → (Option Addr) → Nat → Nat → Int → AMem → Res, P = fun (L : Rec) (x0 : Int) (x1 : Int) (x2 : Int) (x3 : Int) (x4 : Int) (x13 : Int) (x14 : Int) (x15 : Int) (x16 : Int) (x17 : Option Addr) (x17n : Nat) (x17c : Nat) (x18 : Option Addr) (x18n : Nat) (x18c : Nat) (x19 : Option Addr) (x19n : Nat) (x19c : Nat) (x20 : Int) (M : AMem) => code L c9_44 (k9_44 L) (s9_44 x0 x1 x2 x3 x4 x13 x14 x15 x16 x17 x17n x17c x18 x18n x18c x19 x19n x19c x20 M) M := ⟨_, rfl⟩
noncomputable def P9_44 : Rec → Int → Int → Int → Int → Int → Int → Int → Int → Int → (Option Addr) → Nat → Nat → (Option Addr) → Nat → Nat → (Option Addr) → Nat → Nat → Int → AMem → Res := Classical.choose XP9_44
noncomputable def k9_45 (L : Rec) : KT := retK [.tmp 12]
def s9_45 (x0 : Int) (x1 : Int) (x2 : Int) (x3 : Int) (x13 : Int) (x14 : Int) (x15 : Int) (x16 : Int) (M : AMem) : List Value := [.int .i64 x0, .int .i64 x1, .int .i64 x2, .int .i64 x3, junk, junk, junk, junk, junk, junk, junk, junk, junk, .int .i64 x13, .int .i64 x14, .int .i64 x15, .int .i64 x16, junk, junk, junk, junk, junk, junk, junk, junk, junk, junk, junk, junk, junk, junk, junk, junk, junk, junk, junk, junk, junk, junk, junk, junk, junk, junk, junk, junk, junk, junk, junk, junk, junk, junk, junk, junk, junk, junk, junk, junk, junk, junk, junk, junk, junk, junk, junk, junk, junk, junk, junk, junk, junk, junk, junk, junk, junk, junk, junk, junk, junk, junk, junk, junk, junk, junk, junk, junk, junk, junk, junk, junk, junk, junk, junk, junk, junk, junk, junk, junk, junk, junk, junk, junk, junk, junk, junk, junk, junk, junk, junk, junk, junk, junk, junk, junk, junk, junk, junk, junk, junk, junk, junk, junk, junk, junk, junk, junk, junk, junk, junk, junk, junk, junk, junk, junk, junk, junk, junk, junk, junk, junk]
theorem XP9_45 : ∃ P : Rec → Int → Int → Int → Int → Int → Int → Int → Int → AMem → Res, P = fun (L : Rec) (x0 : Int) (x1 : Int) (x2 : Int) (x3 : Int) (x13 : Int) (x14 : Int) (x15 : Int) (x16 : Int) (M : AMem) => code L c9_45 (k9_45 L) (s9_45 x0 x1 x2 x3 x13 x14 x15 x16 M) M := ⟨_, rfl⟩
noncomputable def P9_45 : Rec → Int → Int → Int → Int → Int → Int → Int → Int → AMem → Res := Classical.choose XP9_45
theorem G9_28 (L : Rec) (b9_28 c9_44 c9_45 : ACode) (x0 : Int) (x1 : Int) (x2 : Int) (x3 : Int) (x4 : Int) (x13 : Int) (x14 : Int) (x15 : Int) (x16 : Int) (x17 : Option Addr) (x17n : Nat) (x17c : Nat) (x18 : Option Addr) (x18n : Nat) (x18c : Nat) (x19 : Option Addr) (x19n : Nat) (x19c : Nat) (x20 : Int) (M : AMem) : code L (.post (.seq (.seq (.ops o9_31) (.cond (.tmp 78) (.skip) (.exit 0))) (.seq (.block 1 (.seq (.draw [] 0 o9_38 []) (.cond (.tmp 109) (.seq (.ops o9_41) (.ret)) (.skip)))) (.clear [5, 6, 7, 8, 9, 10, 11, 12, 21, 22, 23, 24, 25, 26, 27, 28, 29, 30, 31, 32, 33, 34, 35, 36, 37, 38, 39, 40, 41, 42, 43, 44, 45, 46, 47, 48, 49, 50, 51, 52, 53, 54, 55, 56, 57, 58, 59, 60, 61, 62, 63, 64, 65, 66, 67, 68, 69, 70, 71, 72, 73, 74, 75, 76, 77, 78, 79, 80, 81, 82, 83, 84, 85, 86, 87, 88, 89, 90, 91, 92, 93, 94, 95, 96, 97, 98, 99, 100, 101, 102, 103, 104, 105, 106, 107, 108, 109, 110, 111, 112, 113, 114, 115, 116, 117, 118, 119, 120, 121, 122, 123, 124, 125, 126, 127, 128, 129, 130, 131, 132, 133, 134, 135, 136, 137, 138] c9_44))) [5, 6, 7, 8, 9, 10, 11, 12, 21, 22, 23, 24, 25, 26, 27, 28, 29, 30, 31, 32, 33, 34, 35, 36, 37, 38, 39, 40, 41, 42, 43, 44, 45, 46, 47, 48, 49, 50, 51, 52, 53, 54, 55, 56, 57, 58, 59, 60, 61, 62, 63, 64, 65, 66, 67, 68, 69, 70, 71, 72, 73, 74, 75, 76, 77, 78, 79, 80, 81, 82, 83, 84, 85, 86, 87, 88, 89, 90, 91, 92, 93, 94, 95, 96, 97, 98, 99, 100, 101, 102, 103, 104, 105, 106, 107, 108, 109, 110, 111, 112, 113, 114, 115, 116, 117, 118, 119, 120, 121, 122, 123, 124, 125, 126, 127, 128, 129, 130, 131, 132, 133, 134, 135, 136, 137, 138]) (loopK L b9_28 (blockK 0 (seqK (code L (.clear [4, 5, 6, 7, 8, 9, 10, 11, 12, 17, 18, 19, 20, 21, 22, 23, 24, 25, 26, 27, 28, 29, 30, 31, 32, 33, 34, 35, 36, 37, 38, 39, 40, 41, 42, 43, 44, 45, 46, 47, 48, 49, 50, 51, 52, 53, 54, 55, 56, 57, 58, 59, 60, 61, 62, 63, 64, 65, 66, 67, 68, 69, 70, 71, 72, 73, 74, 75, 76, 77, 78, 79, 80, 81, 82, 83, 84, 85, 86, 87, 88, 89, 90, 91, 92, 93, 94, 95, 96, 97, 98, 99, 100, 101, 102, 103, 104, 105, 106, 107, 108, 109, 110, 111, 112, 113, 114, 115, 116, 117, 118, 119, 120, 121, 122, 123, 124, 125, 126, 127, 128, 129, 130, 131, 132, 133, 134, 135, 136, 137, 138] c9_45) (retK [.tmp 12])) (retK [.tmp 12])))) [.int .i64 x0, .int .i64 x1, .int .i64 x2, .int .i64 x3, .int .i64 x4, junk, junk, junk, junk, junk, junk, junk, junk, .int .i64 x13, .int .i64 x14, .int .i64 x15, .int .i64 x16, .slice x17 x17n x17c, .slice x18 x18n x18c, .slice x19 x19n x19c, .int .i64 x20, junk, junk, junk, junk, junk, junk, junk, junk, junk, junk, junk, junk, junk, junk, junk, junk, junk, junk, junk, junk, junk, junk, junk, junk, junk, junk, junk, junk, junk, junk, junk, junk, junk, junk, junk, junk, junk, junk, junk, junk, junk, junk, junk, junk, junk, junk, junk, junk, junk, junk, junk, junk, junk, junk, junk, junk, junk, junk, junk, junk, junk, junk, junk, junk, junk, junk, junk, junk, junk, junk, junk, junk, junk, junk, junk, junk, junk, junk, junk, junk, junk, junk, junk, junk, junk, junk, junk, junk, junk, junk, junk, junk, junk, junk, junk, junk, junk, junk, junk, junk, junk, junk, junk, junk, junk, junk, junk, junk, junk, junk, junk, junk, junk, junk, junk, junk, junk, junk] M =
  (if (decide (x20 < (Int.ofNat x17n))) = true
    then (match x17 with
      | some a_1 => (if 0 ≤ x20 ∧ x20 < (Int.ofNat x17n)
        then (Option.bind (intOf? .i64 (AMem.ld M a_1.block (a_1.off + ((Int.toNat x20) * 2)))) fun x_2 =>
          (Option.bind (intOf? .i64 (AMem.ld M a_1.block ((a_1.off + ((Int.toNat x20) * 2)) + 1))) fun x_3 =>
          (match x18 with
          | some a_4 => (if 0 ≤ x20 ∧ x20 < (Int.ofNat x18n)
            then (Option.bind (intOf? .i64 (AMem.ld M a_4.block (a_4.off + ((Int.toNat x20) * 2)))) fun x_5 =>
              (Option.bind (intOf? .i64 (AMem.ld M a_4.block ((a_4.off + ((Int.toNat x20) * 2)) + 1))) fun x_6 =>
              (if (!((x_2 == x_5) && (x_3 == x_6))) = true
              then some (.bool false, M)
              else (match x19 with
                | some a_7 => (if 0 ≤ x20 ∧ x20 < (Int.ofNat x19n)
                  then (Option.bind (intOf? .i64 (AMem.ld M a_7.block (a_7.off + ((Int.toNat x20) * 1)))) fun x_8 =>
                    (match x17 with
                    | some a_9 => (if 0 ≤ x20 ∧ x20 < (Int.ofNat x17n)
                      then (Option.bind (intOf? .i64 (AMem.ld M a_9.block ((a_9.off + ((Int.toNat x20) * 2)) + 1))) fun x_10 =>
                        (match x17 with
                        | some a_11 => (if 0 ≤ x20 ∧ x20 < (Int.ofNat x17n)
                          then (Option.bind (intOf? .i64 (AMem.ld M a_11.block (a_11.off + ((Int.toNat x20) * 2)))) fun x_12 =>
                            (if (x_8 != (IntKind.wrap .i64 ((IntKind.wrap .i64 (x_10 * x4)) + x_12))) = true
                            then some (.bool false, M)
                            else code L c9_44 (postK [5, 6, 7, 8, 9, 10, 11, 12, 21, 22, 23, 24, 25, 26, 27, 28, 29, 30, 31, 32, 33, 34, 35, 36, 37, 38, 39, 40, 41, 42, 43, 44, 45, 46, 47, 48, 49, 50, 51, 52, 53, 54, 55, 56, 57, 58, 59, 60, 61, 62, 63, 64, 65, 66, 67, 68, 69, 70, 71, 72, 73, 74, 75, 76, 77, 78, 79, 80, 81, 82, 83, 84, 85, 86, 87, 88, 89, 90, 91, 92, 93, 94, 95, 96, 97, 98, 99, 100, 101, 102, 103, 104, 105, 106, 107, 108, 109, 110, 111, 112, 113, 114, 115, 116, 117, 118, 119, 120, 121, 122, 123, 124, 125, 126, 127, 128, 129, 130, 131, 132, 133, 134, 135, 136, 137, 138] (loopK L b9_28 (blockK 0 (seqK (code L (.clear [4, 5, 6, 7, 8, 9, 10, 11, 12, 17, 18, 19, 20, 21, 22, 23, 24, 25, 26, 27, 28, 29, 30, 31, 32, 33, 34, 35, 36, 37, 38, 39, 40, 41, 42, 43, 44, 45, 46, 47, 48, 49, 50, 51, 52, 53, 54, 55, 56, 57, 58, 59, 60, 61, 62, 63, 64, 65, 66, 67, 68, 69, 70, 71, 72, 73, 74, 75, 76, 77, 78, 79, 80, 81, 82, 83, 84, 85, 86, 87, 88, 89, 90, 91, 92, 93, 94, 95, 96, 97, 98, 99, 100, 101, 102, 103, 104, 105, 106, 107, 108, 109, 110, 111, 112, 113, 114, 115, 116, 117, 118, 119, 120, 121, 122, 123, 124, 125, 126, 127, 128, 129, 130, 131, 132, 133, 134, 135, 136, 137, 138] c9_45) (retK [.tmp 12])) (retK [.tmp 12]))))) [.int .i64 x0, .int .i64 x1, .int .i64 x2, .int .i64 x3, .int .i64 x4, junk, junk, junk, junk, junk, junk, junk, junk, .int .i64 x13, .int .i64 x14, .int .i64 x15, .int .i64 x16, .slice x17 x17n x17c, .slice x18 x18n x18c, .slice x19 x19n x19c, .int .i64 x20, junk, junk, junk, junk, junk, junk, junk, junk, junk, junk, junk, junk, junk, junk, junk, junk, junk, junk, junk, junk, junk, junk, junk, junk, junk, junk, junk, junk, junk, junk, junk, junk, junk, junk, junk, junk, junk, junk, junk, junk, junk, junk, junk, junk, junk, junk, junk, junk, junk, junk, junk, junk, junk, junk, junk, junk, junk, junk, junk, junk, junk, junk, junk, junk, junk, junk, junk, junk, junk, junk, junk, junk, junk, junk, junk, junk, junk, junk, junk, junk, junk, junk, junk, junk, junk, junk, junk, junk, junk, junk, junk, junk, junk, junk, junk, junk, junk, junk, junk, junk, junk, junk, junk, junk, junk, junk, junk, junk, junk, junk, junk, junk, junk, junk, junk, junk, junk, junk] M))
                          else none)
                        | none => none))
                      else none)
                    | none => none))
                  else none)
                | none => none))))
            else none)
          | none => none)))
        else none)
      | none => none)
    else code L c9_45 (retK [.tmp 12]) [.int .i64 x0, .int .i64 x1, .int .i64 x2, .int .i64 x3, junk, junk, junk, junk, junk, junk, junk, junk, junk, .int .i64 x13, .int .i64 x14, .int .i64 x15, .int .i64 x16, junk, junk, junk, junk, junk, junk, junk, junk, junk, junk, junk, junk, junk, junk, junk, junk, junk, junk, junk, junk, junk, junk, junk, junk, junk, junk, junk, junk, junk, junk, junk, junk, junk, junk, junk, junk, junk, junk, junk, junk, junk, junk, junk, junk, junk, junk, junk, junk, junk, junk, junk, junk, junk, junk, junk, junk, junk, junk, junk, junk, junk, junk, junk, junk, junk, junk, junk, junk, junk, junk, junk, junk, junk, junk, junk, junk, junk, junk, junk, junk, junk, junk, junk, junk, junk, junk, junk, junk, junk, junk, junk, junk, junk, junk, junk, junk, junk, junk, junk, junk, junk, junk, junk, junk, junk, junk, junk, junk, junk, junk, junk, junk, junk, junk, junk, junk, junk, junk, junk, junk, junk, junk] M) := by kernel_rfl
theorem QP9_28_eq (L : Rec) (hL : ∀ b K t A, L.loop b K t A = code L b (loopK L b K) t A) (P9_28 : Rec → Int → Int → Int → Int → Int → Int → Int → Int → Int → (Option Addr) → Nat → Nat → (Option Addr) → Nat → Nat → (Option Addr) → Nat → Nat → Int → AMem → Res) (hP9_28 : P9_28 = fun (L : Rec) (x0 : Int) (x1 : Int) (x2 : Int) (x3 : Int) (x4 : Int) (x13 : Int) (x14 : Int) (x15 : Int) (x16 : Int) (x17 : Option Addr) (x17n : Nat) (x17c : Nat) (x18 : Option Addr) (x18n : Nat) (x18c : Nat) (x19 : Option Addr) (x19n : Nat) (x19c : Nat) (x20 : Int) (M : AMem) => L.loop b9_28 (k9_28 L) (s9_28 x0 x1 x2 x3 x4 x13 x14 x15 x16 x17 x17n x17c x18 x18n x18c x19 x19n x19c x20 M) M) (P9_44 : Rec → Int → Int → Int → Int → Int → Int → Int → Int → Int → (Option Addr) → Nat → Nat → (Option Addr) → Nat → Nat → (Option Addr) → Nat → Nat → Int → AMem → Res) (hP9_44 : P9_44 = fun (L : Rec) (x0 : Int) (x1 : Int) (x2 : Int) (x3 : Int) (x4 : Int) (x13 : Int) (x14 : Int) (x15 : Int) (x16 : Int) (x17 : Option Addr) (x17n : Nat) (x17c : Nat) (x18 : Option Addr) (x18n : Nat) (x18c : Nat) (x19 : Option Addr) (x19n : Nat) (x19c : Nat) (x20 : Int) (M : AMem) => code L c9_44 (k9_44 L) (s9_44 x0 x1 x2 x3 x4 x13 x14 x15 x16 x17 x17n x17c x18 x18n x18c x19 x19n x19c x20 M) M) (P9_45 : Rec → Int → Int → Int → Int → Int → Int → Int → Int → AMem → Res) (hP9_45 : P9_45 = fun (L : Rec) (x0 : Int) (x1 : Int) (x2 : Int) (x3 : Int) (x13 : Int) (x14 : Int) (x15 : Int) (x16 : Int) (M : AMem) => code L c9_45 (k9_45 L) (s9_45 x0 x1 x2 x3 x13 x14 x15 x16 M) M) (x0 : Int) (x1 : Int) (x2 : Int) (x3 : Int) (x4 : Int) (x13 : Int) (x14 : Int) (x15 : Int) (x16 : Int) (x17 : Option Addr) (x17n : Nat) (x17c : Nat) (x18 : Option Addr) (x18n : Nat) (x18c : Nat) (x19 : Option Addr) (x19n : Nat) (x19c : Nat) (x20 : Int) (M : AMem) : P9_28 L x0 x1 x2 x3 x4 x13 x14 x15 x16 x17 x17n x17c x18 x18n x18c x19 x19n x19c x20 M =
  (if (decide (x20 < (Int.ofNat x17n))) = true
    then (match x17 with
      | some a_1 => (if 0 ≤ x20 ∧ x20 < (Int.ofNat x17n)
        then (Option.bind (intOf? .i64 (AMem.ld M a_1.block (a_1.off + ((Int.toNat x20) * 2)))) fun x_2 =>
          (Option.bind (intOf? .i64 (AMem.ld M a_1.block ((a_1.off + ((Int.toNat x20) * 2)) + 1))) fun x_3 =>
          (match x18 with
          | some a_4 => (if 0 ≤ x20 ∧ x20 < (Int.ofNat x18n)
            then (Option.bind (intOf? .i64 (AMem.ld M a_4.block (a_4.off + ((Int.toNat x20) * 2)))) fun x_5 =>
              (Option.bind (intOf? .i64 (AMem.ld M a_4.block ((a_4.off + ((Int.toNat x20) * 2)) + 1))) fun x_6 =>
              (if (!((x_2 == x_5) && (x_3 == x_6))) = true
              then some (.bool false, M)
              else (match x19 with
                | some a_7 => (if 0 ≤ x20 ∧ x20 < (Int.ofNat x19n)
                  then (Option.bind (intOf? .i64 (AMem.ld M a_7.block (a_7.off + ((Int.toNat x20) * 1)))) fun x_8 =>
                    (match x17 with
                    | some a_9 => (if 0 ≤ x20 ∧ x20 < (Int.ofNat x17n)
                      then (Option.bind (intOf? .i64 (AMem.ld M a_9.block ((a_9.off + ((Int.toNat x20) * 2)) + 1))) fun x_10 =>
                        (match x17 with
                        | some a_11 => (if 0 ≤ x20 ∧ x20 < (Int.ofNat x17n)
                          then (Option.bind (intOf? .i64 (AMem.ld M a_11.block (a_11.off + ((Int.toNat x20) * 2)))) fun x_12 =>
                            (if (x_8 != (IntKind.wrap .i64 ((IntKind.wrap .i64 (x_10 * x4)) + x_12))) = true
                            then some (.bool false, M)
                            else P9_44 L x0 x1 x2 x3 x4 x13 x14 x15 x16 x17 x17n x17c x18 x18n x18c x19 x19n x19c x20 M))
                          else none)
                        | none => none))
                      else none)
                    | none => none))
                  else none)
                | none => none))))
            else none)
          | none => none)))
        else none)
      | none => none)
    else P9_45 L x0 x1 x2 x3 x13 x14 x15 x16 M) := by
  subst hP9_28; subst hP9_44; subst hP9_45; exact Eq.trans (b := code L b9_28 (loopK L b9_28 (k9_28 L)) (s9_28 x0 x1 x2 x3 x4 x13 x14 x15 x16 x17 x17n x17c x18 x18n x18c x19 x19n x19c x20 M) M) (hL b9_28 (k9_28 L) (s9_28 x0 x1 x2 x3 x4 x13 x14 x15 x16 x17 x17n x17c x18 x18n x18c x19 x19n x19c x20 M) M) (Eq.mp (by kernel_rfl) (G9_28 L b9_28 c9_44 c9_45 x0 x1 x2 x3 x4 x13 x14 x15 x16 x17 x17n x17c x18 x18n x18c x19 x19n x19c x20 M))
theorem P9_28_eq (L : Rec) (hL : ∀ b K t A, L.loop b K t A = code L b (loopK L b K) t A) (x0 : Int) (x1 : Int) (x2 : Int) (x3 : Int) (x4 : Int) (x13 : Int) (x14 : Int) (x15 : Int) (x16 : Int) (x17 : Option Addr) (x17n : Nat) (x17c : Nat) (x18 : Option Addr) (x18n : Nat) (x18c : Nat) (x19 : Option Addr) (x19n : Nat) (x19c : Nat) (x20 : Int) (M : AMem) : P9_28 L x0 x1 x2 x3 x4 x13 x14 x15 x16 x17 x17n x17c x18 x18n x18c x19 x19n x19c x20 M =
  (if (decide (x20 < (Int.ofNat x17n))) = true
    then (match x17 with
      | some a_1 => (if 0 ≤ x20 ∧ x20 < (Int.ofNat x17n)
        then (Option.bind (intOf? .i64 (AMem.ld M a_1.block (a_1.off + ((Int.toNat x20) * 2)))) fun x_2 =>
          (Option.bind (intOf? .i64 (AMem.ld M a_1.block ((a_1.off + ((Int.toNat x20) * 2)) + 1))) fun x_3 =>
          (match x18 with
          | some a_4 => (if 0 ≤ x20 ∧ x20 < (Int.ofNat x18n)
            then (Option.bind (intOf? .i64 (AMem.ld M a_4.block (a_4.off + ((Int.toNat x20) * 2)))) fun x_5 =>
              (Option.bind (intOf? .i64 (AMem.ld M a_4.block ((a_4.off + ((Int.toNat x20) * 2)) + 1))) fun x_6 =>
              (if (!((x_2 == x_5) && (x_3 == x_6))) = true
              then some (.bool false, M)
              else (match x19 with
                | some a_7 => (if 0 ≤ x20 ∧ x20 < (Int.ofNat x19n)
                  then (Option.bind (intOf? .i64 (AMem.ld M a_7.block (a_7.off + ((Int.toNat x20) * 1)))) fun x_8 =>
                    (match x17 with
                    | some a_9 => (if 0 ≤ x20 ∧ x20 < (Int.ofNat x17n)
                      then (Option.bind (intOf? .i64 (AMem.ld M a_9.block ((a_9.off + ((Int.toNat x20) * 2)) + 1))) fun x_10 =>
                        (match x17 with
                        | some a_11 => (if 0 ≤ x20 ∧ x20 < (Int.ofNat x17n)
                          then (Option.bind (intOf? .i64 (AMem.ld M a_11.block (a_11.off + ((Int.toNat x20) * 2)))) fun x_12 =>
                            (if (x_8 != (IntKind.wrap .i64 ((IntKind.wrap .i64 (x_10 * x4)) + x_12))) = true
                            then some (.bool false, M)
                            else P9_44 L x0 x1 x2 x3 x4 x13 x14 x15 x16 x17 x17n x17c x18 x18n x18c x19 x19n x19c x20 M))
                          else none)
                        | none => none))
                      else none)
                    | none => none))
                  else none)
                | none => none))))
            else none)
          | none => none)))
        else none)
      | none => none)
    else P9_45 L x0 x1 x2 x3 x13 x14 x15 x16 M) := QP9_28_eq L hL P9_28 (Classical.choose_spec XP9_28) P9_44 (Classical.choose_spec XP9_44) P9_45 (Classical.choose_spec XP9_45) x0 x1 x2 x3 x4 x13 x14 x15 x16 x17 x17n x17c x18 x18n x18c x19 x19n x19c x20 M
theorem G9_44 (L : Rec) (b9_28 c9_45 : ACode) (x0 : Int) (x1 : Int) (x2 : Int) (x3 : Int) (x4 : Int) (x13 : Int) (x14 : Int) (x15 : Int) (x16 : Int) (x17 : Option Addr) (x17n : Nat) (x17c : Nat) (x18 : Option Addr) (x18n : Nat) (x18c : Nat) (x19 : Option Addr) (x19n : Nat) (x19c : Nat) (x20 : Int) (M : AMem) : code L (.ops o9_44) (postK [5, 6, 7, 8, 9, 10, 11, 12, 21, 22, 23, 24, 25, 26, 27, 28, 29, 30, 31, 32, 33, 34, 35, 36, 37, 38, 39, 40, 41, 42, 43, 44, 45, 46, 47, 48, 49, 50, 51, 52, 53, 54, 55, 56, 57, 58, 59, 60, 61, 62, 63, 64, 65, 66, 67, 68, 69, 70, 71, 72, 73, 74, 75, 76, 77, 78, 79, 80, 81, 82, 83, 84, 85, 86, 87, 88, 89, 90, 91, 92, 93, 94, 95, 96, 97, 98, 99, 100, 101, 102, 103, 104, 105, 106, 107, 108, 109, 110, 111, 112, 113, 114, 115, 116, 117, 118, 119, 120, 121, 122, 123, 124, 125, 126, 127, 128, 129, 130, 131, 132, 133, 134, 135, 136, 137, 138] (loopK L b9_28 (blockK 0 (seqK (code L (.clear [4, 5, 6, 7, 8, 9, 10, 11, 12, 17, 18, 19, 20, 21, 22, 23, 24, 25, 26, 27, 28, 29, 30, 31, 32, 33, 34, 35, 36, 37, 38, 39, 40, 41, 42, 43, 44, 45, 46, 47, 48, 49, 50, 51, 52, 53, 54, 55, 56, 57, 58, 59, 60, 61, 62, 63, 64, 65, 66, 67, 68, 69, 70, 71, 72, 73, 74, 75, 76, 77, 78, 79, 80, 81, 82, 83, 84, 85, 86, 87, 88, 89, 90, 91, 92, 93, 94, 95, 96, 97, 98, 99, 100, 101, 102, 103, 104, 105, 106, 107, 108, 109, 110, 111, 112, 113, 114, 115, 116, 117, 118, 119, 120, 121, 122, 123, 124, 125, 126, 127, 128, 129, 130, 131, 132, 133, 134, 135, 136, 137, 138] c9_45) (retK [.tmp 12])) (retK [.tmp 12]))))) [.int .i64 x0, .int .i64 x1, .int .i64 x2, .int .i64 x3, .int .i64 x4, junk, junk, junk, junk, junk, junk, junk, junk, .int .i64 x13, .int .i64 x14, .int .i64 x15, .int .i64 x16, .slice x17 x17n x17c, .slice x18 x18n x18c, .slice x19 x19n x19c, .int .i64 x20, junk, junk, junk, junk, junk, junk, junk, junk, junk, junk, junk, junk, junk, junk, junk, junk, junk, junk, junk, junk, junk, junk, junk, junk, junk, junk, junk, junk, junk, junk, junk, junk, junk, junk, junk, junk, junk, junk, junk, junk, junk, junk, junk, junk, junk, junk, junk, junk, junk, junk, junk, junk, junk, junk, junk, junk, junk, junk, junk, junk, junk, junk, junk, junk, junk, junk, junk, junk, junk, junk, junk, junk, junk, junk, junk, junk, junk, junk, junk, junk, junk, junk, junk, junk, junk, junk, junk, junk, junk, junk, junk, junk, junk, junk, junk, junk, junk, junk, junk, junk, junk, junk, junk, junk, junk, junk, junk, junk, junk, junk, junk, junk, junk, junk, junk, junk, junk, junk] M =
  L.loop b9_28 (blockK 0 (seqK (code L (.clear [4, 5, 6, 7, 8, 9, 10, 11, 12, 17, 18, 19, 20, 21, 22, 23, 24, 25, 26, 27, 28, 29, 30, 31, 32, 33, 34, 35, 36, 37, 38, 39, 40, 41, 42, 43, 44, 45, 46, 47, 48, 49, 50, 51, 52, 53, 54, 55, 56, 57, 58, 59, 60, 61, 62, 63, 64, 65, 66, 67, 68, 69, 70, 71, 72, 73, 74, 75, 76, 77, 78, 79, 80, 81, 82, 83, 84, 85, 86, 87, 88, 89, 90, 91, 92, 93, 94, 95, 96, 97, 98, 99, 100, 101, 102, 103, 104, 105, 106, 107, 108, 109, 110, 111, 112, 113, 114, 115, 116, 117, 118, 119, 120, 121, 122, 123, 124, 125, 126, 127, 128, 129, 130, 131, 132, 133, 134, 135, 136, 137, 138] c9_45) (retK [.tmp 12])) (retK [.tmp 12]))) [.int .i64 x0, .int .i64 x1, .int .i64 x2, .int .i64 x3, .int .i64 x4, junk, junk, junk, junk, junk, junk, junk, junk, .int .i64 x13, .int .i64 x14, .int .i64 x15, .int .i64 x16, .slice x17 x17n x17c, .slice x18 x18n x18c, .slice x19 x19n x19c, .int .i64 (IntKind.wrap .i64 (x20 + 1)), junk, junk, junk, junk, junk, junk, junk, junk, junk, junk, junk, junk, junk, junk, junk, junk, junk, junk, junk, junk, junk, junk, junk, junk, junk, junk, junk, junk, junk, junk, junk, junk, junk, junk, junk, junk, junk, junk, junk, junk, junk, junk, junk, junk, junk, junk, junk, junk, junk, junk, junk, junk, junk, junk, junk, junk, junk, junk, junk, junk, junk, junk, junk, junk, junk, junk, junk, junk, junk, junk, junk, junk, junk, junk, junk, junk, junk, junk, junk, junk, junk, junk, junk, junk, junk, junk, junk, junk, junk, junk, junk, junk, junk, junk, junk, junk, junk, junk, junk, junk, junk, junk, junk, junk, junk, junk, junk, junk, junk, junk, junk, junk, junk, junk, junk, junk, junk, junk] M := by kernel_rfl
theorem QP9_44_eq (L : Rec) (P9_28 : Rec → Int → Int → Int → Int → Int → Int → Int → Int → Int → (Option Addr) → Nat → Nat → (Option Addr) → Nat → Nat → (Option Addr) → Nat → Nat → Int → AMem → Res) (hP9_28 : P9_28 = fun (L : Rec) (x0 : Int) (x1 : Int) (x2 : Int) (x3 : Int) (x4 : Int) (x13 : Int) (x14 : Int) (x15 : Int) (x16 : Int) (x17 : Option Addr) (x17n : Nat) (x17c : Nat) (x18 : Option Addr) (x18n : Nat) (x18c : Nat) (x19 : Option Addr) (x19n : Nat) (x19c : Nat) (x20 : Int) (M : AMem) => L.loop b9_28 (k9_28 L) (s9_28 x0 x1 x2 x3 x4 x13 x14 x15 x16 x17 x17n x17c x18 x18n x18c x19 x19n x19c x20 M) M) (P9_44 : Rec → Int → Int → Int → Int → Int → Int → Int → Int → Int → (Option Addr) → Nat → Nat → (Option Addr) → Nat → Nat → (Option Addr) → Nat → Nat → Int → AMem → Res) (hP9_44 : P9_44 = fun (L : Rec) (x0 : Int) (x1 : Int) (x2 : Int) (x3 : Int) (x4 : Int) (x13 : Int) (x14 : Int) (x15 : Int) (x16 : Int) (x17 : Option Addr) (x17n : Nat) (x17c : Nat) (x18 : Option Addr) (x18n : Nat) (x18c : Nat) (x19 : Option Addr) (x19n : Nat) (x19c : Nat) (x20 : Int) (M : AMem) => code L c9_44 (k9_44 L) (s9_44 x0 x1 x2 x3 x4 x13 x14 x15 x16 x17 x17n x17c x18 x18n x18c x19 x19n x19c x20 M) M) (x0 : Int) (x1 : Int) (x2 : Int) (x3 : Int) (x4 : Int) (x13 : Int) (x14 : Int) (x15 : Int) (x16 : Int) (x17 : Option Addr) (x17n : Nat) (x17c : Nat) (x18 : Option Addr) (x18n : Nat) (x18c : Nat) (x19 : Option Addr) (x19n : Nat) (x19c : Nat) (x20 : Int) (M : AMem) : P9_44 L x0 x1 x2 x3 x4 x13 x14 x15 x16 x17 x17n x17c x18 x18n x18c x19 x19n x19c x20 M =
  P9_28 L x0 x1 x2 x3 x4 x13 x14 x15 x16 x17 x17n x17c x18 x18n x18c x19 x19n x19c (IntKind.wrap .i64 (x20 + 1)) M := by
  subst hP9_28; subst hP9_44; exact Eq.mp (by kernel_rfl) (G9_44 L b9_28 c9_45 x0 x1 x2 x3 x4 x13 x14 x15 x16 x17 x17n x17c x18 x18n x18c x19 x19n x19c x20 M)
theorem P9_44_eq (L : Rec) (x0 : Int) (x1 : Int) (x2 : Int) (x3 : Int) (x4 : Int) (x13 : Int) (x14 : Int) (x15 : Int) (x16 : Int) (x17 : Option Addr) (x17n : Nat) (x17c : Nat) (x18 : Option Addr) (x18n : Nat) (x18c : Nat) (x19 : Option Addr) (x19n : Nat) (x19c : Nat) (x20 : Int) (M : AMem) : P9_44 L x0 x1 x2 x3 x4 x13 x14 x15 x16 x17 x17n x17c x18 x18n x18c x19 x19n x19c x20 M =
  P9_28 L x0 x1 x2 x3 x4 x13 x14 x15 x16 x17 x17n x17c x18 x18n x18c x19 x19n x19c (IntKind.wrap .i64 (x20 + 1)) M := QP9_44_eq L P9_28 (Classical.choose_spec XP9_28) P9_44 (Classical.choose_spec XP9_44) x0 x1 x2 x3 x4 x13 x14 x15 x16 x17 x17n x17c x18 x18n x18c x19 x19n x19c x20 M
theorem G9_45 (L : Rec) (x0 : Int) (x1 : Int) (x2 : Int) (x3 : Int) (x13 : Int) (x14 : Int) (x15 : Int) (x16 : Int) (M : AMem) : code L (.seq (.ops o9_46) (.ret)) (retK [.tmp 12]) [.int .i64 x0, .int .i64 x1, .int .i64 x2, .int .i64 x3, junk, junk, junk, junk, junk, junk, junk, junk, junk, .int .i64 x13, .int .i64 x14, .int .i64 x15, .int .i64 x16, junk, junk, junk, junk, junk, junk, junk, junk, junk, junk, junk, junk, junk, junk, junk, junk, junk, junk, junk, junk, junk, junk, junk, junk, junk, junk, junk, junk, junk, junk, junk, junk, junk, junk, junk, junk, junk, junk, junk, junk, junk, junk, junk, junk, junk, junk, junk, junk, junk, junk, junk, junk, junk, junk, junk, junk, junk, junk, junk, junk, junk, junk, junk, junk, junk, junk, junk, junk, junk, junk, junk, junk, junk, junk, junk, junk, junk, junk, junk, junk, junk, junk, junk, junk, junk, junk, junk, junk, junk, junk, junk, junk, junk, junk, junk, junk, junk, junk, junk, junk, junk, junk, junk, junk, junk, junk, junk, junk, junk, junk, junk, junk, junk, junk, junk, junk, junk, junk, junk, junk, junk, junk] M =
  (Option.bind (L.call 39 [.int .i64 x0, .int .i64 x1] []) fun r_1 =>
    (Option.bind (intOf? .i64 (some r_1.1)) fun x_2 =>
    (Option.bind (L.call 47 [.int .i64 x0, .int .i64 x1] []) fun r_3 =>
    (Option.bind (intOf? .i64 (some r_3.1)) fun x_4 =>
    (if (x_2 == x_4) = true
    then (if (x13 == x15) = true
      then (if (x14 == x16) = true
        then (Option.bind (L.call 41 [.int .i64 x2, .int .i64 x3] []) fun r_5 =>
          (Option.bind (intOf? .i64 (some r_5.1)) fun x_6 =>
          (Option.bind (L.call 48 [.int .i64 x2, .int .i64 x3] []) fun r_7 =>
          (Option.bind (intOf? .i64 (some r_7.1)) fun x_8 =>
          (if (x_6 == x_8) = true
          then (Option.bind (L.call 42 [] []) fun r_9 =>
            (Option.bind (boolOf? (some r_9.1)) fun q_10 =>
            some (.bool q_10, M)))
          else some (.bool false, M))))))
        else some (.bool false, M))
      else some (.bool false, M))
    else some (.bool false, M)))))) := by kernel_rfl
theorem QP9_45_eq (L : Rec) (P9_45 : Rec → Int → Int → Int → Int → Int → Int → Int → Int → AMem → Res) (hP9_45 : P9_45 = fun (L : Rec) (x0 : Int) (x1 : Int) (x2 : Int) (x3 : Int) (x13 : Int) (x14 : Int) (x15 : Int) (x16 : Int) (M : AMem) => code L c9_45 (k9_45 L) (s9_45 x0 x1 x2 x3 x13 x14 x15 x16 M) M) (x0 : Int) (x1 : Int) (x2 : Int) (x3 : Int) (x13 : Int) (x14 : Int) (x15 : Int) (x16 : Int) (M : AMem) : P9_45 L x0 x1 x2 x3 x13 x14 x15 x16 M =
  (Option.bind (L.call 39 [.int .i64 x0, .int .i64 x1] []) fun r_1 =>
    (Option.bind (intOf? .i64 (some r_1.1)) fun x_2 =>
    (Option.bind (L.call 47 [.int .i64 x0, .int .i64 x1] []) fun r_3 =>
    (Option.bind (intOf? .i64 (some r_3.1)) fun x_4 =>
    (if (x_2 == x_4) = true
    then (if (x13 == x15) = true
      then (if (x14 == x16) = true
        then (Option.bind (L.call 41 [.int .i64 x2, .int .i64 x3] []) fun r_5 =>
          (Option.bind (intOf? .i64 (some r_5.1)) fun x_6 =>
          (Option.bind (L.call 48 [.int .i64 x2, .int .i64 x3] []) fun r_7 =>
          (Option.bind (intOf? .i64 (some r_7.1)) fun x_8 =>
          (if (x_6 == x_8) = true
          then (Option.bind (L.call 42 [] []) fun r_9 =>
            (Option.bind (boolOf? (some r_9.1)) fun q_10 =>
            some (.bool q_10, M)))
          else some (.bool false, M))))))
        else some (.bool false, M))
      else some (.bool false, M))
    else some (.bool false, M)))))) := by
  subst hP9_45; exact Eq.mp (by kernel_rfl) (G9_45 L  x0 x1 x2 x3 x13 x14 x15 x16 M)
theorem P9_45_eq (L : Rec) (x0 : Int) (x1 : Int) (x2 : Int) (x3 : Int) (x13 : Int) (x14 : Int) (x15 : Int) (x16 : Int) (M : AMem) : P9_45 L x0 x1 x2 x3 x13 x14 x15 x16 M =
  (Option.bind (L.call 39 [.int .i64 x0, .int .i64 x1] []) fun r_1 =>
    (Option.bind (intOf? .i64 (some r_1.1)) fun x_2 =>
    (Option.bind (L.call 47 [.int .i64 x0, .int .i64 x1] []) fun r_3 =>
    (Option.bind (intOf? .i64 (some r_3.1)) fun x_4 =>
    (if (x_2 == x_4) = true
    then (if (x13 == x15) = true
      then (if (x14 == x16) = true
        then (Option.bind (L.call 41 [.int .i64 x2, .int .i64 x3] []) fun r_5 =>
          (Option.bind (intOf? .i64 (some r_5.1)) fun x_6 =>
          (Option.bind (L.call 48 [.int .i64 x2, .int .i64 x3] []) fun r_7 =>
          (Option.bind (intOf? .i64 (some r_7.1)) fun x_8 =>
          (if (x_6 == x_8) = true
          then (Option.bind (L.call 42 [] []) fun r_9 =>
            (Option.bind (boolOf? (some r_9.1)) fun q_10 =>
            some (.bool q_10, M)))
          else some (.bool false, M))))))
        else some (.bool false, M))
      else some (.bool false, M))
    else some (.bool false, M)))))) := QP9_45_eq L P9_45 (Classical.choose_spec XP9_45) x0 x1 x2 x3 x13 x14 x15 x16 M
theorem GE9 (L : Rec) (b9_28 c9_45 : ACode) (x0 : Int) (x1 : Int) (x2 : Int) (x3 : Int) (x4 : Int) (x5 : Int) (M : AMem) : enterF L ⟨139, [.tmp 12], .seq (.ops o9_1) (.seq (.seq (.ops o9_4) (.cond (.tmp 42) (.seq (.ops o9_7) (.ret)) (.skip))) (.seq (.ops o9_11) (.seq (.ops o9_13) (.seq (.ops o9_15) (.seq (.seq (.ops o9_18) (.cond (.tmp 74) (.seq (.ops o9_21) (.ret)) (.skip))) (.seq (.seq (.ops o9_26) (.block 0 (.clear [5, 6, 7, 8, 9, 10, 11, 12, 21, 22, 23, 24, 25, 26, 27, 28, 29, 30, 31, 32, 33, 34, 35, 36, 37, 38, 39, 40, 41, 42, 43, 44, 45, 46, 47, 48, 49, 50, 51, 52, 53, 54, 55, 56, 57, 58, 59, 60, 61, 62, 63, 64, 65, 66, 67, 68, 69, 70, 71, 72, 73, 74, 75, 76, 77, 78, 79, 80, 81, 82, 83, 84, 85, 86, 87, 88, 89, 90, 91, 92, 93, 94, 95, 96, 97, 98, 99, 100, 101, 102, 103, 104, 105, 106, 107, 108, 109, 110, 111, 112, 113, 114, 115, 116, 117, 118, 119, 120, 121, 122, 123, 124, 125, 126, 127, 128, 129, 130, 131, 132, 133, 134, 135, 136, 137, 138] (.loop b9_28)))) (.clear [4, 5, 6, 7, 8, 9, 10, 11, 12, 17, 18, 19, 20, 21, 22, 23, 24, 25, 26, 27, 28, 29, 30, 31, 32, 33, 34, 35, 36, 37, 38, 39, 40, 41, 42, 43, 44, 45, 46, 47, 48, 49, 50, 51, 52, 53, 54, 55, 56, 57, 58, 59, 60, 61, 62, 63, 64, 65, 66, 67, 68, 69, 70, 71, 72, 73, 74, 75, 76, 77, 78, 79, 80, 81, 82, 83, 84, 85, 86, 87, 88, 89, 90, 91, 92, 93, 94, 95, 96, 97, 98, 99, 100, 101, 102, 103, 104, 105, 106, 107, 108, 109, 110, 111, 112, 113, 114, 115, 116, 117, 118, 119, 120, 121, 122, 123, 124, 125, 126, 127, 128, 129, 130, 131, 132, 133, 134, 135, 136, 137, 138] c9_45)))))))⟩ [.int .i64 x0, .int .i64 x1, .int .i64 x2, .int .i64 x3, .int .i64 x4, .int .i64 x5] M =
  (if (decide (x4 ≥ 1)) = true
    then (if (decide (x4 ≤ 256)) = true
      then (if (decide (x5 ≥ 1)) = true
        then (if (decide (x5 ≤ 256)) = true
          then (if (decide (x4 > 12)) = true
            then (Option.bind (L.call 42 [] []) fun r_1 =>
              (Option.bind (boolOf? (some r_1.1)) fun q_2 =>
              some (.bool q_2, M)))
            else (if (decide (x5 > 12)) = true
              then (Option.bind (L.call 42 [] []) fun r_3 =>
                (Option.bind (boolOf? (some r_3.1)) fun q_4 =>
                some (.bool q_4, M)))
              else (Option.bind (L.call 40 [.int .i64 x2] []) fun r_5 =>
                (Option.bind (tupOf? 2 r_5.1) fun cs_6 =>
                (Option.bind (cs_6[0]?) fun u_7 =>
                (Option.bind (intOf? .i64 (some u_7)) fun x_8 =>
                (Option.bind (cs_6[1]?) fun u_9 =>
                (Option.bind (intOf? .i64 (some u_9)) fun x_10 =>
                (Option.bind (L.call 43 [.int .i64 x2] []) fun r_11 =>
                (Option.bind (tupOf? 2 r_11.1) fun cs_12 =>
                (Option.bind (cs_12[0]?) fun u_13 =>
                (Option.bind (intOf? .i64 (some u_13)) fun x_14 =>
                (Option.bind (cs_12[1]?) fun u_15 =>
                (Option.bind (intOf? .i64 (some u_15)) fun x_16 =>
                (Option.bind (L.call 44 [.int .i64 x4, .int .i64 x5] M) fun r_17 =>
                (Option.bind (sliceOf? (some r_17.1)) fun s_18 =>
                (Option.bind (L.call 45 [.int .i64 x4, .int .i64 x5] r_17.2) fun r_19 =>
                (Option.bind (sliceOf? (some r_19.1)) fun s_20 =>
                (Option.bind (L.call 46 [.int .i64 x4, .int .i64 x5] r_19.2) fun r_21 =>
                (Option.bind (sliceOf? (some r_21.1)) fun s_22 =>
                (if ((Int.ofNat s_18.2.1) != (Int.ofNat s_20.2.1)) = true
                then some (.bool false, r_21.2)
                else (if ((Int.ofNat s_22.2.1) != (Int.ofNat s_20.2.1)) = true
                  then some (.bool false, r_21.2)
                  else L.loop b9_28 (blockK 0 (seqK (code L (.clear [4, 5, 6, 7, 8, 9, 10, 11, 12, 17, 18, 19, 20, 21, 22, 23, 24, 25, 26, 27, 28, 29, 30, 31, 32, 33, 34, 35, 36, 37, 38, 39, 40, 41, 42, 43, 44, 45, 46, 47, 48, 49, 50, 51, 52, 53, 54, 55, 56, 57, 58, 59, 60, 61, 62, 63, 64, 65, 66, 67, 68, 69, 70, 71, 72, 73, 74, 75, 76, 77, 78, 79, 80, 81, 82, 83, 84, 85, 86, 87, 88, 89, 90, 91, 92, 93, 94, 95, 96, 97, 98, 99, 100, 101, 102, 103, 104, 105, 106, 107, 108, 109, 110, 111, 112, 113, 114, 115, 116, 117, 118, 119, 120, 121, 122, 123, 124, 125, 126, 127, 128, 129, 130, 131, 132, 133, 134, 135, 136, 137, 138] c9_45) (retK [.tmp 12])) (retK [.tmp 12]))) [.int .i64 x0, .int .i64 x1, .int .i64 x2, .int .i64 x3, .int .i64 x4, junk, junk, junk, junk, junk, junk, junk, junk, .int .i64 x_8, .int .i64 x_10, .int .i64 x_14, .int .i64 x_16, .slice s_18.1 s_18.2.1 s_18.2.2, .slice s_20.1 s_20.2.1 s_20.2.2, .slice s_22.1 s_22.2.1 s_22.2.2, .int .i64 0, junk, junk, junk, junk, junk, junk, junk, junk, junk, junk, junk, junk, junk, junk, junk, junk, junk, junk, junk, junk, junk, junk, junk, junk, junk, junk, junk, junk, junk, junk, junk, junk, junk, junk, junk, junk, junk, junk, junk, junk, junk, junk, junk, junk, junk, junk, junk, junk, junk, junk, junk, junk, junk, junk, junk, junk, junk, junk, junk, junk, junk, junk, junk, junk, junk, junk, junk, junk, junk, junk, junk, junk, junk, junk, junk, junk, junk, junk, junk, junk, junk, junk, junk, junk, junk, junk, junk, junk, junk, junk, junk, junk, junk, junk, junk, junk, junk, junk, junk, junk, junk, junk, junk, junk, junk, junk, junk, junk, junk, junk, junk, junk, junk, junk, junk, junk, junk, junk] r_21.2))))))))))))))))))))))
          else (Option.bind (L.call 40 [.int .i64 x2] []) fun r_23 =>
            (Option.bind (tupOf? 2 r_23.1) fun cs_24 =>
            (Option.bind (cs_24[0]?) fun u_25 =>
            (Option.bind (intOf? .i64 (some u_25)) fun x_26 =>
            (Option.bind (cs_24[1]?) fun u_27 =>
            (Option.bind (intOf? .i64 (some u_27)) fun x_28 =>
            (Option.bind (L.call 43 [.int .i64 x2] []) fun r_29 =>
            (Option.bind (tupOf? 2 r_29.1) fun cs_30 =>
            (Option.bind (cs_30[0]?) fun u_31 =>
            (Option.bind (intOf? .i64 (some u_31)) fun x_32 =>
            (Option.bind (cs_30[1]?) fun u_33 =>
            (Option.bind (intOf? .i64 (some u_33)) fun x_34 =>
            (Option.bind (L.call 44 [.int .i64 x4, .int .i64 x5] M) fun r_35 =>
            (Option.bind (sliceOf? (some r_35.1)) fun s_36 =>
            (Option.bind (L.call 45 [.int .i64 x4, .int .i64 x5] r_35.2) fun r_37 =>
            (Option.bind (sliceOf? (some r_37.1)) fun s_38 =>
            (Option.bind (L.call 46 [.int .i64 x4, .int .i64 x5] r_37.2) fun r_39 =>
            (Option.bind (sliceOf? (some r_39.1)) fun s_40 =>
            (if ((Int.ofNat s_36.2.1) != (Int.ofNat s_38.2.1)) = true
            then some (.bool false, r_39.2)
            else (if ((Int.ofNat s_40.2.1) != (Int.ofNat s_38.2.1)) = true
              then some (.bool false, r_39.2)
              else L.loop b9_28 (blockK 0 (seqK (code L (.clear [4, 5, 6, 7, 8, 9, 10, 11, 12, 17, 18, 19, 20, 21, 22, 23, 24, 25, 26, 27, 28, 29, 30, 31, 32, 33, 34, 35, 36, 37, 38, 39, 40, 41, 42, 43, 44, 45, 46, 47, 48, 49, 50, 51, 52, 53, 54, 55, 56, 57, 58, 59, 60, 61, 62, 63, 64, 65, 66, 67, 68, 69, 70, 71, 72, 73, 74, 75, 76, 77, 78, 79, 80, 81, 82, 83, 84, 85, 86, 87, 88, 89, 90, 91, 92, 93, 94, 95, 96, 97, 98, 99, 100, 101, 102, 103, 104, 105, 106, 107, 108, 109, 110, 111, 112, 113, 114, 115, 116, 117, 118, 119, 120, 121, 122, 123, 124, 125, 126, 127, 128, 129, 130, 131, 132, 133, 134, 135, 136, 137, 138] c9_45) (retK [.tmp 12])) (retK [.tmp 12]))) [.int .i64 x0, .int .i64 x1, .int .i64 x2, .int .i64 x3, .int .i64 x4, junk, junk, junk, junk, junk, junk, junk, junk, .int .i64 x_26, .int .i64 x_28, .int .i64 x_32, .int .i64 x_34, .slice s_36.1 s_36.2.1 s_36.2.2, .slice s_38.1 s_38.2.1 s_38.2.2, .slice s_40.1 s_40.2.1 s_40.2.2, .int .i64 0, junk, junk, junk, junk, junk, junk, junk, junk, junk, junk, junk, junk, junk, junk, junk, junk, junk, junk, junk, junk, junk, junk, junk, junk, junk, junk, junk, junk, junk, junk, junk, junk, junk, junk, junk, junk, junk, junk, junk, junk, junk, junk, junk, junk, junk, junk, junk, junk, junk, junk, junk, junk, junk, junk, junk, junk, junk, junk, junk, junk, junk, junk, junk, junk, junk, junk, junk, junk, junk, junk, junk, junk, junk, junk, junk, junk, junk, junk, junk, junk, junk, junk, junk, junk, junk, junk, junk, junk, junk, junk, junk, junk, junk, junk, junk, junk, junk, junk, junk, junk, junk, junk, junk, junk, junk, junk, junk, junk, junk, junk, junk, junk, junk, junk, junk, junk, junk, junk] r_39.2)))))))))))))))))))))
        else (Option.bind (L.call 40 [.int .i64 x2] []) fun r_41 =>
          (Option.bind (tupOf? 2 r_41.1) fun cs_42 =>
          (Option.bind (cs_42[0]?) fun u_43 =>
          (Option.bind (intOf? .i64 (some u_43)) fun x_44 =>
          (Option.bind (cs_42[1]?) fun u_45 =>
          (Option.bind (intOf? .i64 (some u_45)) fun x_46 =>
          (Option.bind (L.call 43 [.int .i64 x2] []) fun r_47 =>
          (Option.bind (tupOf? 2 r_47.1) fun cs_48 =>
          (Option.bind (cs_48[0]?) fun u_49 =>
          (Option.bind (intOf? .i64 (some u_49)) fun x_50 =>
          (Option.bind (cs_48[1]?) fun u_51 =>
          (Option.bind (intOf? .i64 (some u_51)) fun x_52 =>
          (Option.bind (L.call 44 [.int .i64 x4, .int .i64 x5] M) fun r_53 =>
          (Option.bind (sliceOf? (some r_53.1)) fun s_54 =>
          (Option.bind (L.call 45 [.int .i64 x4, .int .i64 x5] r_53.2) fun r_55 =>
          (Option.bind (sliceOf? (some r_55.1)) fun s_56 =>
          (Option.bind (L.call 46 [.int .i64 x4, .int .i64 x5] r_55.2) fun r_57 =>
          (Option.bind (sliceOf? (some r_57.1)) fun s_58 =>
          (if ((Int.ofNat s_54.2.1) != (Int.ofNat s_56.2.1)) = true
          then some (.bool false, r_57.2)
          else (if ((Int.ofNat s_58.2.1) != (Int.ofNat s_56.2.1)) = true
            then some (.bool false, r_57.2)
            else L.loop b9_28 (blockK 0 (seqK (code L (.clear [4, 5, 6, 7, 8, 9, 10, 11, 12, 17, 18, 19, 20, 21, 22, 23, 24, 25, 26, 27, 28, 29, 30, 31, 32, 33, 34, 35, 36, 37, 38, 39, 40, 41, 42, 43, 44, 45, 46, 47, 48, 49, 50, 51, 52, 53, 54, 55, 56, 57, 58, 59, 60, 61, 62, 63, 64, 65, 66, 67, 68, 69, 70, 71, 72, 73, 74, 75, 76, 77, 78, 79, 80, 81, 82, 83, 84, 85, 86, 87, 88, 89, 90, 91, 92, 93, 94, 95, 96, 97, 98, 99, 100, 101, 102, 103, 104, 105, 106, 107, 108, 109, 110, 111, 112, 113, 114, 115, 116, 117, 118, 119, 120, 121, 122, 123, 124, 125, 126, 127, 128, 129, 130, 131, 132, 133, 134, 135, 136, 137, 138] c9_45) (retK [.tmp 12])) (retK [.tmp 12]))) [.int .i64 x0, .int .i64 x1, .int .i64 x2, .int .i64 x3, .int .i64 x4, junk, junk, junk, junk, junk, junk, junk, junk, .int .i64 x_44, .int .i64 x_46, .int .i64 x_50, .int .i64 x_52, .slice s_54.1 s_54.2.1 s_54.2.2, .slice s_56.1 s_56.2.1 s_56.2.2, .slice s_58.1 s_58.2.1 s_58.2.2, .int .i64 0, junk, junk, junk, junk, junk, junk, junk, junk, junk, junk, junk, junk, junk, junk, junk, junk, junk, junk, junk, junk, junk, junk, junk, junk, junk, junk, junk, junk, junk, junk, junk, junk, junk, junk, junk, junk, junk, junk, junk, junk, junk, junk, junk, junk, junk, junk, junk, junk, junk, junk, junk, junk, junk, junk, junk, junk, junk, junk, junk, junk, junk, junk, junk, junk, junk, junk, junk, junk, junk, junk, junk, junk, junk, junk, junk, junk, junk, junk, junk, junk, junk, junk, junk, junk, junk, junk, junk, junk, junk, junk, junk, junk, junk, junk, junk, junk, junk, junk, junk, junk, junk, junk, junk, junk, junk, junk, junk, junk, junk, junk, junk, junk, junk, junk, junk, junk, junk, junk] r_57.2)))))))))))))))))))))
      else (Option.bind (L.call 40 [.int .i64 x2] []) fun r_59 =>
        (Option.bind (tupOf? 2 r_59.1) fun cs_60 =>
        (Option.bind (cs_60[0]?) fun u_61 =>
        (Option.bind (intOf? .i64 (some u_61)) fun x_62 =>
        (Option.bind (cs_60[1]?) fun u_63 =>
        (Option.bind (intOf? .i64 (some u_63)) fun x_64 =>
        (Option.bind (L.call 43 [.int .i64 x2] []) fun r_65 =>
        (Option.bind (tupOf? 2 r_65.1) fun cs_66 =>
        (Option.bind (cs_66[0]?) fun u_67 =>
        (Option.bind (intOf? .i64 (some u_67)) fun x_68 =>
        (Option.bind (cs_66[1]?) fun u_69 =>
        (Option.bind (intOf? .i64 (some u_69)) fun x_70 =>
        (Option.bind (L.call 44 [.int .i64 x4, .int .i64 x5] M) fun r_71 =>
        (Option.bind (sliceOf? (some r_71.1)) fun s_72 =>
        (Option.bind (L.call 45 [.int .i64 x4, .int .i64 x5] r_71.2) fun r_73 =>
        (Option.bind (sliceOf? (some r_73.1)) fun s_74 =>
        (Option.bind (L.call 46 [.int .i64 x4, .int .i64 x5] r_73.2) fun r_75 =>
        (Option.bind (sliceOf? (some r_75.1)) fun s_76 =>
        (if ((Int.ofNat s_72.2.1) != (Int.ofNat s_74.2.1)) = true
        then some (.bool false, r_75.2)
        else (if ((Int.ofNat s_76.2.1) != (Int.ofNat s_74.2.1)) = true
          then some (.bool false, r_75.2)
          else L.loop b9_28 (blockK 0 (seqK (code L (.clear [4, 5, 6, 7, 8, 9, 10, 11, 12, 17, 18, 19, 20, 21, 22, 23, 24, 25, 26, 27, 28, 29, 30, 31, 32, 33, 34, 35, 36, 37, 38, 39, 40, 41, 42, 43, 44, 45, 46, 47, 48, 49, 50, 51, 52, 53, 54, 55, 56, 57, 58, 59, 60, 61, 62, 63, 64, 65, 66, 67, 68, 69, 70, 71, 72, 73, 74, 75, 76, 77, 78, 79, 80, 81, 82, 83, 84, 85, 86, 87, 88, 89, 90, 91, 92, 93, 94, 95, 96, 97, 98, 99, 100, 101, 102, 103, 104, 105, 106, 107, 108, 109, 110, 111, 112, 113, 114, 115, 116, 117, 118, 119, 120, 121, 122, 123, 124, 125, 126, 127, 128, 129, 130, 131, 132, 133, 134, 135, 136, 137, 138] c9_45) (retK [.tmp 12])) (retK [.tmp 12]))) [.int .i64 x0, .int .i64 x1, .int .i64 x2, .int .i64 x3, .int .i64 x4, junk, junk, junk, junk, junk, junk, junk, junk, .int .i64 x_62, .int .i64 x_64, .int .i64 x_68, .int .i64 x_70, .slice s_72.1 s_72.2.1 s_72.2.2, .slice s_74.1 s_74.2.1 s_74.2.2, .slice s_76.1 s_76.2.1 s_76.2.2, .int .i64 0, junk, junk, junk, junk, junk, junk, junk, junk, junk, junk, junk, junk, junk, junk, junk, junk, junk, junk, junk, junk, junk, junk, junk, junk, junk, junk, junk, junk, junk, junk, junk, junk, junk, junk, junk, junk, junk, junk, junk, junk, junk, junk, junk, junk, junk, junk, junk, junk, junk, junk, junk, junk, junk, junk, junk, junk, junk, junk, junk, junk, junk, junk, junk, junk, junk, junk, junk, junk, junk, junk, junk, junk, junk, junk, junk, junk, junk, junk, junk, junk, junk, junk, junk, junk, junk, junk, junk, junk, junk, junk, junk, junk, junk, junk, junk, junk, junk, junk, junk, junk, junk, junk, junk, junk, junk, junk, junk, junk, junk, junk, junk, junk, junk, junk, junk, junk, junk, junk] r_75.2)))))))))))))))))))))
    else (Option.bind (L.call 40 [.int .i64 x2] []) fun r_77 =>
      (Option.bind (tupOf? 2 r_77.1) fun cs_78 =>
      (Option.bind (cs_78[0]?) fun u_79 =>
      (Option.bind (intOf? .i64 (some u_79)) fun x_80 =>
      (Option.bind (cs_78[1]?) fun u_81 =>
      (Option.bind (intOf? .i64 (some u_81)) fun x_82 =>
      (Option.bind (L.call 43 [.int .i64 x2] []) fun r_83 =>
      (Option.bind (tupOf? 2 r_83.1) fun cs_84 =>
      (Option.bind (cs_84[0]?) fun u_85 =>
      (Option.bind (intOf? .i64 (some u_85)) fun x_86 =>
      (Option.bind (cs_84[1]?) fun u_87 =>
      (Option.bind (intOf? .i64 (some u_87)) fun x_88 =>
      (Option.bind (L.call 44 [.int .i64 x4, .int .i64 x5] M) fun r_89 =>
      (Option.bind (sliceOf? (some r_89.1)) fun s_90 =>
      (Option.bind (L.call 45 [.int .i64 x4, .int .i64 x5] r_89.2) fun r_91 =>
      (Option.bind (sliceOf? (some r_91.1)) fun s_92 =>
      (Option.bind (L.call 46 [.int .i64 x4, .int .i64 x5] r_91.2) fun r_93 =>
      (Option.bind (sliceOf? (some r_93.1)) fun s_94 =>
      (if ((Int.ofNat s_90.2.1) != (Int.ofNat s_92.2.1)) = true
      then some (.bool false, r_93.2)
      else (if ((Int.ofNat s_94.2.1) != (Int.ofNat s_92.2.1)) = true
        then some (.bool false, r_93.2)
        else L.loop b9_28 (blockK 0 (seqK (code L (.clear [4, 5, 6, 7, 8, 9, 10, 11, 12, 17, 18, 19, 20, 21, 22, 23, 24, 25, 26, 27, 28, 29, 30, 31, 32, 33, 34, 35, 36, 37, 38, 39, 40, 41, 42, 43, 44, 45, 46, 47, 48, 49, 50, 51, 52, 53, 54, 55, 56, 57, 58, 59, 60, 61, 62, 63, 64, 65, 66, 67, 68, 69, 70, 71, 72, 73, 74, 75, 76, 77, 78, 79, 80, 81, 82, 83, 84, 85, 86, 87, 88, 89, 90, 91, 92, 93, 94, 95, 96, 97, 98, 99, 100, 101, 102, 103, 104, 105, 106, 107, 108, 109, 110, 111, 112, 113, 114, 115, 116, 117, 118, 119, 120, 121, 122, 123, 124, 125, 126, 127, 128, 129, 130, 131, 132, 133, 134, 135, 136, 137, 138] c9_45) (retK [.tmp 12])) (retK [.tmp 12]))) [.int .i64 x0, .int .i64 x1, .int .i64 x2, .int .i64 x3, .int .i64 x4, junk, junk, junk, junk, junk, junk, junk, junk, .int .i64 x_80, .int .i64 x_82, .int .i64 x_86, .int .i64 x_88, .slice s_90.1 s_90.2.1 s_90.2.2, .slice s_92.1 s_92.2.1 s_92.2.2, .slice s_94.1 s_94.2.1 s_94.2.2, .int .i64 0, junk, junk, junk, junk, junk, junk, junk, junk, junk, junk, junk, junk, junk, junk, junk, junk, junk, junk, junk, junk, junk, junk, junk, junk, junk, junk, junk, junk, junk, junk, junk, junk, junk, junk, junk, junk, junk, junk, junk, junk, junk, junk, junk, junk, junk, junk, junk, junk, junk, junk, junk, junk, junk, junk, junk, junk, junk, junk, junk, junk, junk, junk, junk, junk, junk, junk, junk, junk, junk, junk, junk, junk, junk, junk, junk, junk, junk, junk, junk, junk, junk, junk, junk, junk, junk, junk, junk, junk, junk, junk, junk, junk, junk, junk, junk, junk, junk, junk, junk, junk, junk, junk, junk, junk, junk, junk, junk, junk, junk, junk, junk, junk, junk, junk, junk, junk, junk, junk] r_93.2))))))))))))))))))))) := by kernel_rfl
theorem QE9 (L : Rec) (P9_28 : Rec → Int → Int → Int → Int → Int → Int → Int → Int → Int → (Option Addr) → Nat → Nat → (Option Addr) → Nat → Nat → (Option Addr) → Nat → Nat → Int → AMem → Res) (hP9_28 : P9_28 = fun (L : Rec) (x0 : Int) (x1 : Int) (x2 : Int) (x3 : Int) (x4 : Int) (x13 : Int) (x14 : Int) (x15 : Int) (x16 : Int) (x17 : Option Addr) (x17n : Nat) (x17c : Nat) (x18 : Option Addr) (x18n : Nat) (x18c : Nat) (x19 : Option Addr) (x19n : Nat) (x19c : Nat) (x20 : Int) (M : AMem) => L.loop b9_28 (k9_28 L) (s9_28 x0 x1 x2 x3 x4 x13 x14 x15 x16 x17 x17n x17c x18 x18n x18c x19 x19n x19c x20 M) M) (x0 : Int) (x1 : Int) (x2 : Int) (x3 : Int) (x4 : Int) (x5 : Int) (M : AMem) : enterF L a9 [.int .i64 x0, .int .i64 x1, .int .i64 x2, .int .i64 x3, .int .i64 x4, .int .i64 x5] M =
  (if (decide (x4 ≥ 1)) = true
    then (if (decide (x4 ≤ 256)) = true
      then (if (decide (x5 ≥ 1)) = true
        then (if (decide (x5 ≤ 256)) = true
          then (if (decide (x4 > 12)) = true
            then (Option.bind (L.call 42 [] []) fun r_1 =>
              (Option.bind (boolOf? (some r_1.1)) fun q_2 =>
              some (.bool q_2, M)))
            else (if (decide (x5 > 12)) = true
              then (Option.bind (L.call 42 [] []) fun r_3 =>
                (Option.bind (boolOf? (some r_3.1)) fun q_4 =>
                some (.bool q_4, M)))
              else (Option.bind (L.call 40 [.int .i64 x2] []) fun r_5 =>
                (Option.bind (tupOf? 2 r_5.1) fun cs_6 =>
                (Option.bind (cs_6[0]?) fun u_7 =>
                (Option.bind (intOf? .i64 (some u_7)) fun x_8 =>
                (Option.bind (cs_6[1]?) fun u_9 =>
                (Option.bind (intOf? .i64 (some u_9)) fun x_10 =>
                (Option.bind (L.call 43 [.int .i64 x2] []) fun r_11 =>
                (Option.bind (tupOf? 2 r_11.1) fun cs_12 =>
                (Option.bind (cs_12[0]?) fun u_13 =>
                (Option.bind (intOf? .i64 (some u_13)) fun x_14 =>
                (Option.bind (cs_12[1]?) fun u_15 =>
                (Option.bind (intOf? .i64 (some u_15)) fun x_16 =>
                (Option.bind (L.call 44 [.int .i64 x4, .int .i64 x5] M) fun r_17 =>
                (Option.bind (sliceOf? (some r_17.1)) fun s_18 =>
                (Option.bind (L.call 45 [.int .i64 x4, .int .i64 x5] r_17.2) fun r_19 =>
                (Option.bind (sliceOf? (some r_19.1)) fun s_20 =>
                (Option.bind (L.call 46 [.int .i64 x4, .int .i64 x5] r_19.2) fun r_21 =>
                (Option.bind (sliceOf? (some r_21.1)) fun s_22 =>
                (if ((Int.ofNat s_18.2.1) != (Int.ofNat s_20.2.1)) = true
                then some (.bool false, r_21.2)
                else (if ((Int.ofNat s_22.2.1) != (Int.ofNat s_20.2.1)) = true
                  then some (.bool false, r_21.2)
                  else P9_28 L x0 x1 x2 x3 x4 x_8 x_10 x_14 x_16 s_18.1 s_18.2.1 s_18.2.2 s_20.1 s_20.2.1 s_20.2.2 s_22.1 s_22.2.1 s_22.2.2 0 r_21.2))))))))))))))))))))))
          else (Option.bind (L.call 40 [.int .i64 x2] []) fun r_23 =>
            (Option.bind (tupOf? 2 r_23.1) fun cs_24 =>
            (Option.bind (cs_24[0]?) fun u_25 =>
            (Option.bind (intOf? .i64 (some u_25)) fun x_26 =>
            (Option.bind (cs_24[1]?) fun u_27 =>
            (Option.bind (intOf? .i64 (some u_27)) fun x_28 =>
            (Option.bind (L.call 43 [.int .i64 x2] []) fun r_29 =>
            (Option.bind (tupOf? 2 r_29.1) fun cs_30 =>
            (Option.bind (cs_30[0]?) fun u_31 =>
            (Option.bind (intOf? .i64 (some u_31)) fun x_32 =>
            (Option.bind (cs_30[1]?) fun u_33 =>
            (Option.bind (intOf? .i64 (some u_33)) fun x_34 =>
            (Option.bind (L.call 44 [.int .i64 x4, .int .i64 x5] M) fun r_35 =>
            (Option.bind (sliceOf? (some r_35.1)) fun s_36 =>
            (Option.bind (L.call 45 [.int .i64 x4, .int .i64 x5] r_35.2) fun r_37 =>
            (Option.bind (sliceOf? (some r_37.1)) fun s_38 =>
            (Option.bind (L.call 46 [.int .i64 x4, .int .i64 x5] r_37.2) fun r_39 =>
            (Option.bind (sliceOf? (some r_39.1)) fun s_40 =>
            (if ((Int.ofNat s_36.2.1) != (Int.ofNat s_38.2.1)) = true
            then some (.bool false, r_39.2)
            else (if ((Int.ofNat s_40.2.1) != (Int.ofNat s_38.2.1)) = true
              then some (.bool false, r_39.2)
              else P9_28 L x0 x1 x2 x3 x4 x_26 x_28 x_32 x_34 s_36.1 s_36.2.1 s_36.2.2 s_38.1 s_38.2.1 s_38.2.2 s_40.1 s_40.2.1 s_40.2.2 0 r_39.2)))))))))))))))))))))
        else (Option.bind (L.call 40 [.int .i64 x2] []) fun r_41 =>
          (Option.bind (tupOf? 2 r_41.1) fun cs_42 =>
          (Option.bind (cs_42[0]?) fun u_43 =>
          (Option.bind (intOf? .i64 (some u_43)) fun x_44 =>
          (Option.bind (cs_42[1]?) fun u_45 =>
          (Option.bind (intOf? .i64 (some u_45)) fun x_46 =>
          (Option.bind (L.call 43 [.int .i64 x2] []) fun r_47 =>
          (Option.bind (tupOf? 2 r_47.1) fun cs_48 =>
          (Option.bind (cs_48[0]?) fun u_49 =>
          (Option.bind (intOf? .i64 (some u_49)) fun x_50 =>
          (Option.bind (cs_48[1]?) fun u_51 =>
          (Option.bind (intOf? .i64 (some u_51)) fun x_52 =>
          (Option.bind (L.call 44 [.int .i64 x4, .int .i64 x5] M) fun r_53 =>
          (Option.bind (sliceOf? (some r_53.1)) fun s_54 =>
          (Option.bind (L.call 45 [.int .i64 x4, .int .i64 x5] r_53.2) fun r_55 =>
          (Option.bind (sliceOf? (some r_55.1)) fun s_56 =>
          (Option.bind (L.call 46 [.int .i64 x4, .int .i64 x5] r_55.2) fun r_57 =>
          (Option.bind (sliceOf? (some r_57.1)) fun s_58 =>
          (if ((Int.ofNat s_54.2.1) != (Int.ofNat s_56.2.1)) = true
          then some (.bool false, r_57.2)
          else (if ((Int.ofNat s_58.2.1) != (Int.ofNat s_56.2.1)) = true
            then some (.bool false, r_57.2)
            else P9_28 L x0 x1 x2 x3 x4 x_44 x_46 x_50 x_52 s_54.1 s_54.2.1 s_54.2.2 s_56.1 s_56.2.1 s_56.2.2 s_58.1 s_58.2.1 s_58.2.2 0 r_57.2)))))))))))))))))))))
      else (Option.bind (L.call 40 [.int .i64 x2] []) fun r_59 =>
        (Option.bind (tupOf? 2 r_59.1) fun cs_60 =>
        (Option.bind (cs_60[0]?) fun u_61 =>
        (Option.bind (intOf? .i64 (some u_61)) fun x_62 =>
        (Option.bind (cs_60[1]?) fun u_63 =>
        (Option.bind (intOf? .i64 (some u_63)) fun x_64 =>
        (Option.bind (L.call 43 [.int .i64 x2] []) fun r_65 =>
        (Option.bind (tupOf? 2 r_65.1) fun cs_66 =>
        (Option.bind (cs_66[0]?) fun u_67 =>
        (Option.bind (intOf? .i64 (some u_67)) fun x_68 =>
        (Option.bind (cs_66[1]?) fun u_69 =>
        (Option.bind (intOf? .i64 (some u_69)) fun x_70 =>
        (Option.bind (L.call 44 [.int .i64 x4, .int .i64 x5] M) fun r_71 =>
        (Option.bind (sliceOf? (some r_71.1)) fun s_72 =>
        (Option.bind (L.call 45 [.int .i64 x4, .int .i64 x5] r_71.2) fun r_73 =>
        (Option.bind (sliceOf? (some r_73.1)) fun s_74 =>
        (Option.bind (L.call 46 [.int .i64 x4, .int .i64 x5] r_73.2) fun r_75 =>
        (Option.bind (sliceOf? (some r_75.1)) fun s_76 =>
        (if ((Int.ofNat s_72.2.1) != (Int.ofNat s_74.2.1)) = true
        then some (.bool false, r_75.2)
        else (if ((Int.ofNat s_76.2.1) != (Int.ofNat s_74.2.1)) = true
          then some (.bool false, r_75.2)
          else P9_28 L x0 x1 x2 x3 x4 x_62 x_64 x_68 x_70 s_72.1 s_72.2.1 s_72.2.2 s_74.1 s_74.2.1 s_74.2.2 s_76.1 s_76.2.1 s_76.2.2 0 r_75.2)))))))))))))))))))))
    else (Option.bind (L.call 40 [.int .i64 x2] []) fun r_77 =>
      (Option.bind (tupOf? 2 r_77.1) fun cs_78 =>
      (Option.bind (cs_78[0]?) fun u_79 =>
      (Option.bind (intOf? .i64 (some u_79)) fun x_80 =>
      (Option.bind (cs_78[1]?) fun u_81 =>
      (Option.bind (intOf? .i64 (some u_81)) fun x_82 =>
      (Option.bind (L.call 43 [.int .i64 x2] []) fun r_83 =>
      (Option.bind (tupOf? 2 r_83.1) fun cs_84 =>
      (Option.bind (cs_84[0]?) fun u_85 =>
      (Option.bind (intOf? .i64 (some u_85)) fun x_86 =>
      (Option.bind (cs_84[1]?) fun u_87 =>
      (Option.bind (intOf? .i64 (some u_87)) fun x_88 =>
      (Option.bind (L.call 44 [.int .i64 x4, .int .i64 x5] M) fun r_89 =>
      (Option.bind (sliceOf? (some r_89.1)) fun s_90 =>
      (Option.bind (L.call 45 [.int .i64 x4, .int .i64 x5] r_89.2) fun r_91 =>
      (Option.bind (sliceOf? (some r_91.1)) fun s_92 =>
      (Option.bind (L.call 46 [.int .i64 x4, .int .i64 x5] r_91.2) fun r_93 =>
      (Option.bind (sliceOf? (some r_93.1)) fun s_94 =>
      (if ((Int.ofNat s_90.2.1) != (Int.ofNat s_92.2.1)) = true
      then some (.bool false, r_93.2)
      else (if ((Int.ofNat s_94.2.1) != (Int.ofNat s_92.2.1)) = true
        then some (.bool false, r_93.2)
        else P9_28 L x0 x1 x2 x3 x4 x_80 x_82 x_86 x_88 s_90.1 s_90.2.1 s_90.2.2 s_92.1 s_92.2.1 s_92.2.2 s_94.1 s_94.2.1 s_94.2.2 0 r_93.2))))))))))))))))))))) := by
  subst hP9_28; exact Eq.mp (by kernel_rfl) (GE9 L b9_28 c9_45 x0 x1 x2 x3 x4 x5 M)
theorem E9 (L : Rec) (x0 : Int) (x1 : Int) (x2 : Int) (x3 : Int) (x4 : Int) (x5 : Int) (M : AMem) : enterF L a9 [.int .i64 x0, .int .i64 x1, .int .i64 x2, .int .i64 x3, .int .i64 x4, .int .i64 x5] M =
  (if (decide (x4 ≥ 1)) = true
    then (if (decide (x4 ≤ 256)) = true
      then (if (decide (x5 ≥ 1)) = true
        then (if (decide (x5 ≤ 256)) = true
          then (if (decide (x4 > 12)) = true
            then (Option.bind (L.call 42 [] []) fun r_1 =>
              (Option.bind (boolOf? (some r_1.1)) fun q_2 =>
              some (.bool q_2, M)))
            else (if (decide (x5 > 12)) = true
              then (Option.bind (L.call 42 [] []) fun r_3 =>
                (Option.bind (boolOf? (some r_3.1)) fun q_4 =>
                some (.bool q_4, M)))
              else (Option.bind (L.call 40 [.int .i64 x2] []) fun r_5 =>
                (Option.bind (tupOf? 2 r_5.1) fun cs_6 =>
                (Option.bind (cs_6[0]?) fun u_7 =>
                (Option.bind (intOf? .i64 (some u_7)) fun x_8 =>
                (Option.bind (cs_6[1]?) fun u_9 =>
                (Option.bind (intOf? .i64 (some u_9)) fun x_10 =>
                (Option.bind (L.call 43 [.int .i64 x2] []) fun r_11 =>
                (Option.bind (tupOf? 2 r_11.1) fun cs_12 =>
                (Option.bind (cs_12[0]?) fun u_13 =>
                (Option.bind (intOf? .i64 (some u_13)) fun x_14 =>
                (Option.bind (cs_12[1]?) fun u_15 =>
                (Option.bind (intOf? .i64 (some u_15)) fun x_16 =>
                (Option.bind (L.call 44 [.int .i64 x4, .int .i64 x5] M) fun r_17 =>
                (Option.bind (sliceOf? (some r_17.1)) fun s_18 =>
                (Option.bind (L.call 45 [.int .i64 x4, .int .i64 x5] r_17.2) fun r_19 =>
                (Option.bind (sliceOf? (some r_19.1)) fun s_20 =>
                (Option.bind (L.call 46 [.int .i64 x4, .int .i64 x5] r_19.2) fun r_21 =>
                (Option.bind (sliceOf? (some r_21.1)) fun s_22 =>
                (if ((Int.ofNat s_18.2.1) != (Int.ofNat s_20.2.1)) = true
                then some (.bool false, r_21.2)
                else (if ((Int.ofNat s_22.2.1) != (Int.ofNat s_20.2.1)) = true
                  then some (.bool false, r_21.2)
                  else P9_28 L x0 x1 x2 x3 x4 x_8 x_10 x_14 x_16 s_18.1 s_18.2.1 s_18.2.2 s_20.1 s_20.2.1 s_20.2.2 s_22.1 s_22.2.1 s_22.2.2 0 r_21.2))))))))))))))))))))))
          else (Option.bind (L.call 40 [.int .i64 x2] []) fun r_23 =>
            (Option.bind (tupOf? 2 r_23.1) fun cs_24 =>
            (Option.bind (cs_24[0]?) fun u_25 =>
            (Option.bind (intOf? .i64 (some u_25)) fun x_26 =>
            (Option.bind (cs_24[1]?) fun u_27 =>
            (Option.bind (intOf? .i64 (some u_27)) fun x_28 =>
            (Option.bind (L.call 43 [.int .i64 x2] []) fun r_29 =>
            (Option.bind (tupOf? 2 r_29.1) fun cs_30 =>
            (Option.bind (cs_30[0]?) fun u_31 =>
            (Option.bind (intOf? .i64 (some u_31)) fun x_32 =>
            (Option.bind (cs_30[1]?) fun u_33 =>
            (Option.bind (intOf? .i64 (some u_33)) fun x_34 =>
            (Option.bind (L.call 44 [.int .i64 x4, .int .i64 x5] M) fun r_35 =>
            (Option.bind (sliceOf? (some r_35.1)) fun s_36 =>
            (Option.bind (L.call 45 [.int .i64 x4, .int .i64 x5] r_35.2) fun r_37 =>
            (Option.bind (sliceOf? (some r_37.1)) fun s_38 =>
            (Option.bind (L.call 46 [.int .i64 x4, .int .i64 x5] r_37.2) fun r_39 =>
            (Option.bind (sliceOf? (some r_39.1)) fun s_40 =>
            (if ((Int.ofNat s_36.2.1) != (Int.ofNat s_38.2.1)) = true
            then some (.bool false, r_39.2)
            else (if ((Int.ofNat s_40.2.1) != (Int.ofNat s_38.2.1)) = true
              then some (.bool false, r_39.2)
              else P9_28 L x0 x1 x2 x3 x4 x_26 x_28 x_32 x_34 s_36.1 s_36.2.1 s_36.2.2 s_38.1 s_38.2.1 s_38.2.2 s_40.1 s_40.2.1 s_40.2.2 0 r_39.2)))))))))))))))))))))
        else (Option.bind (L.call 40 [.int .i64 x2] []) fun r_41 =>
          (Option.bind (tupOf? 2 r_41.1) fun cs_42 =>
          (Option.bind (cs_42[0]?) fun u_43 =>
          (Option.bind (intOf? .i64 (some u_43)) fun x_44 =>
          (Option.bind (cs_42[1]?) fun u_45 =>
          (Option.bind (intOf? .i64 (some u_45)) fun x_46 =>
          (Option.bind (L.call 43 [.int .i64 x2] []) fun r_47 =>
          (Option.bind (tupOf? 2 r_47.1) fun cs_48 =>
          (Option.bind (cs_48[0]?) fun u_49 =>
          (Option.bind (intOf? .i64 (some u_49)) fun x_50 =>
          (Option.bind (cs_48[1]?) fun u_51 =>
          (Option.bind (intOf? .i64 (some u_51)) fun x_52 =>
          (Option.bind (L.call 44 [.int .i64 x4, .int .i64 x5] M) fun r_53 =>
          (Option.bind (sliceOf? (some r_53.1)) fun s_54 =>
          (Option.bind (L.call 45 [.int .i64 x4, .int .i64 x5] r_53.2) fun r_55 =>
          (Option.bind (sliceOf? (some r_55.1)) fun s_56 =>
          (Option.bind (L.call 46 [.int .i64 x4, .int .i64 x5] r_55.2) fun r_57 =>
          (Option.bind (sliceOf? (some r_57.1)) fun s_58 =>
          (if ((Int.ofNat s_54.2.1) != (Int.ofNat s_56.2.1)) = true
          then some (.bool false, r_57.2)
          else (if ((Int.ofNat s_58.2.1) != (Int.ofNat s_56.2.1)) = true
            then some (.bool false, r_57.2)
            else P9_28 L x0 x1 x2 x3 x4 x_44 x_46 x_50 x_52 s_54.1 s_54.2.1 s_54.2.2 s_56.1 s_56.2.1 s_56.2.2 s_58.1 s_58.2.1 s_58.2.2 0 r_57.2)))))))))))))))))))))
      else (Option.bind (L.call 40 [.int .i64 x2] []) fun r_59 =>
        (Option.bind (tupOf? 2 r_59.1) fun cs_60 =>
        (Option.bind (cs_60[0]?) fun u_61 =>
        (Option.bind (intOf? .i64 (some u_61)) fun x_62 =>
        (Option.bind (cs_60[1]?) fun u_63 =>
        (Option.bind (intOf? .i64 (some u_63)) fun x_64 =>
        (Option.bind (L.call 43 [.int .i64 x2] []) fun r_65 =>
        (Option.bind (tupOf? 2 r_65.1) fun cs_66 =>
        (Option.bind (cs_66[0]?) fun u_67 =>
        (Option.bind (intOf? .i64 (some u_67)) fun x_68 =>
        (Option.bind (cs_66[1]?) fun u_69 =>
        (Option.bind (intOf? .i64 (some u_69)) fun x_70 =>
        (Option.bind (L.call 44 [.int .i64 x4, .int .i64 x5] M) fun r_71 =>
        (Option.bind (sliceOf? (some r_71.1)) fun s_72 =>
        (Option.bind (L.call 45 [.int .i64 x4, .int .i64 x5] r_71.2) fun r_73 =>
        (Option.bind (sliceOf? (some r_73.1)) fun s_74 =>
        (Option.bind (L.call 46 [.int .i64 x4, .int .i64 x5] r_73.2) fun r_75 =>
        (Option.bind (sliceOf? (some r_75.1)) fun s_76 =>
        (if ((Int.ofNat s_72.2.1) != (Int.ofNat s_74.2.1)) = true
        then some (.bool false, r_75.2)
        else (if ((Int.ofNat s_76.2.1) != (Int.ofNat s_74.2.1)) = true
          then some (.bool false, r_75.2)
          else P9_28 L x0 x1 x2 x3 x4 x_62 x_64 x_68 x_70 s_72.1 s_72.2.1 s_72.2.2 s_74.1 s_74.2.1 s_74.2.2 s_76.1 s_76.2.1 s_76.2.2 0 r_75.2)))))))))))))))))))))
    else (Option.bind (L.call 40 [.int .i64 x2] []) fun r_77 =>
      (Option.bind (tupOf? 2 r_77.1) fun cs_78 =>
      (Option.bind (cs_78[0]?) fun u_79 =>
      (Option.bind (intOf? .i64 (some u_79)) fun x_80 =>
      (Option.bind (cs_78[1]?) fun u_81 =>
      (Option.bind (intOf? .i64 (some u_81)) fun x_82 =>
      (Option.bind (L.call 43 [.int .i64 x2] []) fun r_83 =>
      (Option.bind (tupOf? 2 r_83.1) fun cs_84 =>
      (Option.bind (cs_84[0]?) fun u_85 =>
      (Option.bind (intOf? .i64 (some u_85)) fun x_86 =>
      (Option.bind (cs_84[1]?) fun u_87 =>
      (Option.bind (intOf? .i64 (some u_87)) fun x_88 =>
      (Option.bind (L.call 44 [.int .i64 x4, .int .i64 x5] M) fun r_89 =>
      (Option.bind (sliceOf? (some r_89.1)) fun s_90 =>
      (Option.bind (L.call 45 [.int .i64 x4, .int .i64 x5] r_89.2) fun r_91 =>
      (Option.bind (sliceOf? (some r_91.1)) fun s_92 =>
      (Option.bind (L.call 46 [.int .i64 x4, .int .i64 x5] r_91.2) fun r_93 =>
      (Option.bind (sliceOf? (some r_93.1)) fun s_94 =>
      (if ((Int.ofNat s_90.2.1) != (Int.ofNat s_92.2.1)) = true
      then some (.bool false, r_93.2)
      else (if ((Int.ofNat s_94.2.1) != (Int.ofNat s_92.2.1)) = true
        then some (.bool false, r_93.2)
        else P9_28 L x0 x1 x2 x3 x4 x_80 x_82 x_86 x_88 s_90.1 s_90.2.1 s_90.2.2 s_92.1 s_92.2.1 s_92.2.2 s_94.1 s_94.2.1 s_94.2.2 0 r_93.2))))))))))))))))))))) := QE9 L P9_28 (Classical.choose_spec XP9_28) x0 x1 x2 x3 x4 x5 M
/-! #### skylightlaw46.MortonOnce -/
noncomputable def k10_20 (L : Rec) : KT := blockK 0 (seqK (code L (.clear [0, 1, 2, 3, 4, 5, 6, 7, 8, 10, 11, 12, 13, 14, 15, 16, 17, 18, 19, 20, 21, 22, 23, 24, 25, 26, 27, 28, 29, 30, 31, 32, 33, 34, 35, 36, 37, 38, 39, 40, 41, 42, 43, 44, 45, 46, 47, 48, 49, 50, 51, 52, 53, 54, 55, 56, 57, 58, 59, 60, 61, 62, 63, 64, 65, 66, 67, 68, 69, 70, 71, 72, 73, 74, 75, 76, 77, 78, 79, 80, 81, 82, 83, 84, 85, 86, 87, 88, 89, 90, 91, 92, 93, 94, 95, 96, 97, 98, 99, 100, 101, 102, 103, 104, 105, 106, 107, 108, 109, 110, 111, 112, 113, 114, 115, 116, 117, 118, 119, 120, 121, 122, 123, 124, 125, 126, 127, 128, 129, 130, 131, 132, 133] c10_41) (retK [.tmp 4])) (retK [.tmp 4]))
def s10_20 (x5 : Int) (x6 : Int) (x7 : Option Addr) (x7n : Nat) (x7c : Nat) (x8 : Option Addr) (x8n : Nat) (x8c : Nat) (x9 : Nat) (x9n : Nat) (x10 : Int) (M : AMem) : List Value := [junk, junk, junk, junk, junk, .int .i64 x5, .int .i64 x6, .slice x7 x7n x7c, .slice x8 x8n x8c, .slice (some ⟨x9, 0, none⟩) x9n 1, .int .i64 x10, junk, junk, junk, junk, junk, junk, junk, junk, junk, junk, junk, junk, junk, junk, junk, junk, junk, junk, junk, junk, junk, junk, junk, junk, junk, junk, junk, junk, junk, junk, junk, junk, junk, junk, junk, junk, junk, junk, junk, junk, junk, junk, junk, junk, junk, junk, junk, junk, junk, junk, junk, junk, junk, junk, junk, junk, junk, junk, junk, junk, junk, junk, junk, junk, junk, junk, junk, junk, junk, junk, junk, junk, junk, junk, junk, junk, junk, junk, junk, junk, junk, junk, junk, junk, junk, junk, junk, junk, junk, junk, junk, junk, junk, junk, junk, junk, junk, junk, junk, junk, junk, junk, junk, junk, junk, junk, junk, junk, junk, junk, junk, junk, junk, junk, junk, junk, junk, junk, junk, junk, junk, junk, junk]
theorem XP10_20 : ∃ P : Rec → Int → Int → (Option Addr) → Nat → Nat → (Option Addr) → Nat → Nat → Nat → Nat → Int → AMem → Res, P = fun (L : Rec) (x5 : Int) (x6 : Int) (x7 : Option Addr) (x7n : Nat) (x7c : Nat) (x8 : Option Addr) (x8n : Nat) (x8c : Nat) (x9 : Nat) (x9n : Nat) (x10 : Int) (M : AMem) => L.loop b10_20 (k10_20 L) (s10_20 x5 x6 x7 x7n x7c x8 x8n x8c x9 x9n x10 M) M := ⟨_, rfl⟩
noncomputable def P10_20 : Rec → Int → Int → (Option Addr) → Nat → Nat → (Option Addr) → Nat → Nat → Nat → Nat → Int → AMem → Res := Classical.choose XP10_20
noncomputable def k10_40 (L : Rec) : KT := postK [0, 1, 2, 3, 4, 11, 12, 13, 14, 15, 16, 17, 18, 19, 20, 21, 22, 23, 24, 25, 26, 27, 28, 29, 30, 31, 32, 33, 34, 35, 36, 37, 38, 39, 40, 41, 42, 43, 44, 45, 46, 47, 48, 49, 50, 51, 52, 53, 54, 55, 56, 57, 58, 59, 60, 61, 62, 63, 64, 65, 66, 67, 68, 69, 70, 71, 72, 73, 74, 75, 76, 77, 78, 79, 80, 81, 82, 83, 84, 85, 86, 87, 88, 89, 90, 91, 92, 93, 94, 95, 96, 97, 98, 99, 100, 101, 102, 103, 104, 105, 106, 107, 108, 109, 110, 111, 112, 113, 114, 115, 116, 117, 118, 119, 120, 121, 122, 123, 124, 125, 126, 127, 128, 129, 130, 131, 132, 133] (loopK L b10_20 (blockK 0 (seqK (code L (.clear [0, 1, 2, 3, 4, 5, 6, 7, 8, 10, 11, 12, 13, 14, 15, 16, 17, 18, 19, 20, 21, 22, 23, 24, 25, 26, 27, 28, 29, 30, 31, 32, 33, 34, 35, 36, 37, 38, 39, 40, 41, 42, 43, 44, 45, 46, 47, 48, 49, 50, 51, 52, 53, 54, 55, 56, 57, 58, 59, 60, 61, 62, 63, 64, 65, 66, 67, 68, 69, 70, 71, 72, 73, 74, 75, 76, 77, 78, 79, 80, 81, 82, 83, 84, 85, 86, 87, 88, 89, 90, 91, 92, 93, 94, 95, 96, 97, 98, 99, 100, 101, 102, 103, 104, 105, 106, 107, 108, 109, 110, 111, 112, 113, 114, 115, 116, 117, 118, 119, 120, 121, 122, 123, 124, 125, 126, 127, 128, 129, 130, 131, 132, 133] c10_41) (retK [.tmp 4])) (retK [.tmp 4]))))
def s10_40 (x5 : Int) (x6 : Int) (x7 : Option Addr) (x7n : Nat) (x7c : Nat) (x8 : Option Addr) (x8n : Nat) (x8c : Nat) (x9 : Nat) (x9n : Nat) (x10 : Int) (M : AMem) : List Value := [junk, junk, junk, junk, junk, .int .i64 x5, .int .i64 x6, .slice x7 x7n x7c, .slice x8 x8n x8c, .slice (some ⟨x9, 0, none⟩) x9n 1, .int .i64 x10, junk, junk, junk, junk, junk, junk, junk, junk, junk, junk, junk, junk, junk, junk, junk, junk, junk, junk, junk, junk, junk, junk, junk, junk, junk, junk, junk, junk, junk, junk, junk, junk, junk, junk, junk, junk, junk, junk, junk, junk, junk, junk, junk, junk, junk, junk, junk, junk, junk, junk, junk, junk, junk, junk, junk, junk, junk, junk, junk, junk, junk, junk, junk, junk, junk, junk, junk, junk, junk, junk, junk, junk, junk, junk, junk, junk, junk, junk, junk, junk, junk, junk, junk, junk, junk, junk, junk, junk, junk, junk, junk, junk, junk, junk, junk, junk, junk, junk, junk, junk, junk, junk, junk, junk, junk, junk, junk, junk, junk, junk, junk, junk, junk, junk, junk, junk, junk, junk, junk, junk, junk, junk, junk]
theorem XP10_40 : ∃ P : Rec → Int → Int → (Option Addr) → Nat → Nat → (Option Addr) → Nat → Nat → Nat → Nat → Int → AMem → Res, P = fun (L : Rec) (x5 : Int) (x6 : Int) (x7 : Option Addr) (x7n : Nat) (x7c : Nat) (x8 : Option Addr) (x8n : Nat) (x8c : Nat) (x9 : Nat) (x9n : Nat) (x10 : Int) (M : AMem) => code L c10_40 (k10_40 L) (s10_40 x5 x6 x7 x7n x7c x8 x8n x8c x9 x9n x10 M) M := ⟨_, rfl⟩
noncomputable def P10_40 : Rec → Int → Int → (Option Addr) → Nat → Nat → (Option Addr) → Nat → Nat → Nat → Nat → Int → AMem → Res := Classical.choose XP10_40
noncomputable def k10_41 (L : Rec) : KT := retK [.tmp 4]
def s10_41 (x9 : Nat) (x9n : Nat) (M : AMem) : List Value := [junk, junk, junk, junk, junk, junk, junk, junk, junk, .slice (some ⟨x9, 0, none⟩) x9n 1, junk, junk, junk, junk, junk, junk, junk, junk, junk, junk, junk, junk, junk, junk, junk, junk, junk, junk, junk, junk, junk, junk, junk, junk, junk, junk, junk, junk, junk, junk, junk, junk, junk, junk, junk, junk, junk, junk, junk, junk, junk, junk, junk, junk, junk, junk, junk, junk, junk, junk, junk, junk, junk, junk, junk, junk, junk, junk, junk, junk, junk, junk, junk, junk, junk, junk, junk, junk, junk, junk, junk, junk, junk, junk, junk, junk, junk, junk, junk, junk, junk, junk, junk, junk, junk, junk, junk, junk, junk, junk, junk, junk, junk, junk, junk, junk, junk, junk, junk, junk, junk, junk, junk, junk, junk, junk, junk, junk, junk, junk, junk, junk, junk, junk, junk, junk, junk, junk, junk, junk, junk, junk, junk, junk]
theorem XP10_41 : ∃ P : Rec → Nat → Nat → AMem → Res, P = fun (L : Rec) (x9 : Nat) (x9n : Nat) (M : AMem) => code L c10_41 (k10_41 L) (s10_41 x9 x9n M) M := ⟨_, rfl⟩
noncomputable def P10_41 : Rec → Nat → Nat → AMem → Res := Classical.choose XP10_41
noncomputable def k10_45 (L : Rec) : KT := blockK 2 (seqK (code L (.clear [0, 1, 2, 3, 4, 5, 6, 7, 8, 9, 10, 11, 12, 13, 14, 15, 16, 17, 18, 19, 20, 21, 22, 23, 24, 25, 26, 27, 28, 29, 30, 31, 32, 33, 34, 35, 36, 37, 38, 39, 40, 41, 42, 43, 44, 45, 46, 47, 48, 49, 50, 51, 52, 53, 54, 55, 56, 57, 58, 59, 60, 61, 62, 63, 64, 65, 66, 67, 68, 69, 70, 71, 72, 73, 74, 75, 76, 77, 78, 79, 80, 81, 82, 83, 84, 85, 86, 87, 88, 89, 90, 91, 92, 93, 94, 95, 96, 97, 98, 99, 100, 101, 102, 103, 104, 105, 106, 107, 108, 109, 110, 111, 112, 113, 114, 115, 116, 117, 118, 119, 120, 121, 122, 123, 124, 125, 126, 127, 128, 129, 130, 131, 132, 133] c10_62) (retK [.tmp 4])) (retK [.tmp 4]))
def s10_45 (x9 : Nat) (x9n : Nat) (x13 : Int) (M : AMem) : List Value := [junk, junk, junk, junk, junk, junk, junk, junk, junk, .slice (some ⟨x9, 0, none⟩) x9n 1, junk, junk, junk, .int .i64 x13, junk, junk, junk, junk, junk, junk, junk, junk, junk, junk, junk, junk, junk, junk, junk, junk, junk, junk, junk, junk, junk, junk, junk, junk, junk, junk, junk, junk, junk, junk, junk, junk, junk, junk, junk, junk, junk, junk, junk, junk, junk, junk, junk, junk, junk, junk, junk, junk, junk, junk, junk, junk, junk, junk, junk, junk, junk, junk, junk, junk, junk, junk, junk, junk, junk, junk, junk, junk, junk, junk, junk, junk, junk, junk, junk, junk, junk, junk, junk, junk, junk, junk, junk, junk, junk, junk, junk, junk, junk, junk, junk, junk, junk, junk, junk, junk, junk, junk, junk, junk, junk, junk, junk, junk, junk, junk, junk, junk, junk, junk, junk, junk, junk, junk, junk, junk, junk, junk, junk, junk]
theorem XP10_45 : ∃ P : Rec → Nat → Nat → Int → AMem → Res, P = fun (L : Rec) (x9 : Nat) (x9n : Nat) (x13 : Int) (M : AMem) => L.loop b10_45 (k10_45 L) (s10_45 x9 x9n x13 M) M := ⟨_, rfl⟩
noncomputable def P10_45 : Rec → Nat → Nat → Int → AMem → Res := Classical.choose XP10_45
noncomputable def k10_61 (L : Rec) : KT := postK [0, 1, 2, 3, 4, 5, 6, 7, 8, 10, 11, 12, 14, 15, 16, 17, 18, 19, 20, 21, 22, 23, 24, 25, 26, 27, 28, 29, 30, 31, 32, 33, 34, 35, 36, 37, 38, 39, 40, 41, 42, 43, 44, 45, 46, 47, 48, 49, 50, 51, 52, 53, 54, 55, 56, 57, 58, 59, 60, 61, 62, 63, 64, 65, 66, 67, 68, 69, 70, 71, 72, 73, 74, 75, 76, 77, 78, 79, 80, 81, 82, 83, 84, 85, 86, 87, 88, 89, 90, 91, 92, 93, 94, 95, 96, 97, 98, 99, 100, 101, 102, 103, 104, 105, 106, 107, 108, 109, 110, 111, 112, 113, 114, 115, 116, 117, 118, 119, 120, 121, 122, 123, 124, 125, 126, 127, 128, 129, 130, 131, 132, 133] (loopK L b10_45 (blockK 2 (seqK (code L (.clear [0, 1, 2, 3, 4, 5, 6, 7, 8, 9, 10, 11, 12, 13, 14, 15, 16, 17, 18, 19, 20, 21, 22, 23, 24, 25, 26, 27, 28, 29, 30, 31, 32, 33, 34, 35, 36, 37, 38, 39, 40, 41, 42, 43, 44, 45, 46, 47, 48, 49, 50, 51, 52, 53, 54, 55, 56, 57, 58, 59, 60, 61, 62, 63, 64, 65, 66, 67, 68, 69, 70, 71, 72, 73, 74, 75, 76, 77, 78, 79, 80, 81, 82, 83, 84, 85, 86, 87, 88, 89, 90, 91, 92, 93, 94, 95, 96, 97, 98, 99, 100, 101, 102, 103, 104, 105, 106, 107, 108, 109, 110, 111, 112, 113, 114, 115, 116, 117, 118, 119, 120, 121, 122, 123, 124, 125, 126, 127, 128, 129, 130, 131, 132, 133] c10_62) (retK [.tmp 4])) (retK [.tmp 4]))))
def s10_61 (x9 : Nat) (x9n : Nat) (x13 : Int) (M : AMem) : List Value := [junk, junk, junk, junk, junk, junk, junk, junk, junk, .slice (some ⟨x9, 0, none⟩) x9n 1, junk, junk, junk, .int .i64 x13, junk, junk, junk, junk, junk, junk, junk, junk, junk, junk, junk, junk, junk, junk, junk, junk, junk, junk, junk, junk, junk, junk, junk, junk, junk, junk, junk, junk, junk, junk, junk, junk, junk, junk, junk, junk, junk, junk, junk, junk, junk, junk, junk, junk, junk, junk, junk, junk, junk, junk, junk, junk, junk, junk, junk, junk, junk, junk, junk, junk, junk, junk, junk, junk, junk, junk, junk, junk, junk, junk, junk, junk, junk, junk, junk, junk, junk, junk, junk, junk, junk, junk, junk, junk, junk, junk, junk, junk, junk, junk, junk, junk, junk, junk, junk, junk, junk, junk, junk, junk, junk, junk, junk, junk, junk, junk, junk, junk, junk, junk, junk, junk, junk, junk, junk, junk, junk, junk, junk, junk]
theorem XP10_61 : ∃ P : Rec → Nat → Nat → Int → AMem → Res, P = fun (L : Rec) (x9 : Nat) (x9n : Nat) (x13 : Int) (M : AMem) => code L c10_61 (k10_61 L) (s10_61 x9 x9n x13 M) M := ⟨_, rfl⟩
noncomputable def P10_61 : Rec → Nat → Nat → Int → AMem → Res := Classical.choose XP10_61
noncomputable def k10_62 (L : Rec) : KT := retK [.tmp 4]
def s10_62 (M : AMem) : List Value := [junk, junk, junk, junk, junk, junk, junk, junk, junk, junk, junk, junk, junk, junk, junk, junk, junk, junk, junk, junk, junk, junk, junk, junk, junk, junk, junk, junk, junk, junk, junk, junk, junk, junk, junk, junk, junk, junk, junk, junk, junk, junk, junk, junk, junk, junk, junk, junk, junk, junk, junk, junk, junk, junk, junk, junk, junk, junk, junk, junk, junk, junk, junk, junk, junk, junk, junk, junk, junk, junk, junk, junk, junk, junk, junk, junk, junk, junk, junk, junk, junk, junk, junk, junk, junk, junk, junk, junk, junk, junk, junk, junk, junk, junk, junk, junk, junk, junk, junk, junk, junk, junk, junk, junk, junk, junk, junk, junk, junk, junk, junk, junk, junk, junk, junk, junk, junk, junk, junk, junk, junk, junk, junk, junk, junk, junk, junk, junk, junk, junk, junk, junk, junk, junk]
theorem XP10_62 : ∃ P : Rec → AMem → Res, P = fun (L : Rec) (M : AMem) => code L c10_62 (k10_62 L) (s10_62 M) M := ⟨_, rfl⟩
noncomputable def P10_62 : Rec → AMem → Res := Classical.choose XP10_62
theorem G10_20 (L : Rec) (b10_20 c10_40 c10_41 : ACode) (x5 : Int) (x6 : Int) (x7 : Option Addr) (x7n : Nat) (x7c : Nat) (x8 : Option Addr) (x8n : Nat) (x8c : Nat) (x9 : Nat) (x9n : Nat) (x10 : Int) (M : AMem) : code L (.post (.seq (.seq (.ops o10_23) (.cond (.tmp 49) (.skip) (.exit 0))) (.seq (.block 1 (.seq (.draw [] 0 o10_30 []) (.seq (.seq (.draw [] 0 o10_33 []) (.cond (.tmp 112) (.seq (.ops o10_36) (.ret)) (.skip))) (.ops o10_39)))) (.clear [0, 1, 2, 3, 4, 11, 12, 13, 14, 15, 16, 17, 18, 19, 20, 21, 22, 23, 24, 25, 26, 27, 28, 29, 30, 31, 32, 33, 34, 35, 36, 37, 38, 39, 40, 41, 42, 43, 44, 45, 46, 47, 48, 49, 50, 51, 52, 53, 54, 55, 56, 57, 58, 59, 60, 61, 62, 63, 64, 65, 66, 67, 68, 69, 70, 71, 72, 73, 74, 75, 76, 77, 78, 79, 80, 81, 82, 83, 84, 85, 86, 87, 88, 89, 90, 91, 92, 93, 94, 95, 96, 97, 98, 99, 100, 101, 102, 103, 104, 105, 106, 107, 108, 109, 110, 111, 112, 113, 114, 115, 116, 117, 118, 119, 120, 121, 122, 123, 124, 125, 126, 127, 128, 129, 130, 131, 132, 133] c10_40))) [0, 1, 2, 3, 4, 11, 12, 13, 14, 15, 16, 17, 18, 19, 20, 21, 22, 23, 24, 25, 26, 27, 28, 29, 30, 31, 32, 33, 34, 35, 36, 37, 38, 39, 40, 41, 42, 43, 44, 45, 46, 47, 48, 49, 50, 51, 52, 53, 54, 55, 56, 57, 58, 59, 60, 61, 62, 63, 64, 65, 66, 67, 68, 69, 70, 71, 72, 73, 74, 75, 76, 77, 78, 79, 80, 81, 82, 83, 84, 85, 86, 87, 88, 89, 90, 91, 92, 93, 94, 95, 96, 97, 98, 99, 100, 101, 102, 103, 104, 105, 106, 107, 108, 109, 110, 111, 112, 113, 114, 115, 116, 117, 118, 119, 120, 121, 122, 123, 124, 125, 126, 127, 128, 129, 130, 131, 132, 133]) (loopK L b10_20 (blockK 0 (seqK (code L (.clear [0, 1, 2, 3, 4, 5, 6, 7, 8, 10, 11, 12, 13, 14, 15, 16, 17, 18, 19, 20, 21, 22, 23, 24, 25, 26, 27, 28, 29, 30, 31, 32, 33, 34, 35, 36, 37, 38, 39, 40, 41, 42, 43, 44, 45, 46, 47, 48, 49, 50, 51, 52, 53, 54, 55, 56, 57, 58, 59, 60, 61, 62, 63, 64, 65, 66, 67, 68, 69, 70, 71, 72, 73, 74, 75, 76, 77, 78, 79, 80, 81, 82, 83, 84, 85, 86, 87, 88, 89, 90, 91, 92, 93, 94, 95, 96, 97, 98, 99, 100, 101, 102, 103, 104, 105, 106, 107, 108, 109, 110, 111, 112, 113, 114, 115, 116, 117, 118, 119, 120, 121, 122, 123, 124, 125, 126, 127, 128, 129, 130, 131, 132, 133] c10_41) (retK [.tmp 4])) (retK [.tmp 4])))) [junk, junk, junk, junk, junk, .int .i64 x5, .int .i64 x6, .slice x7 x7n x7c, .slice x8 x8n x8c, .slice (some ⟨x9, 0, none⟩) x9n 1, .int .i64 x10, junk, junk, junk, junk, junk, junk, junk, junk, junk, junk, junk, junk, junk, junk, junk, junk, junk, junk, junk, junk, junk, junk, junk, junk, junk, junk, junk, junk, junk, junk, junk, junk, junk, junk, junk, junk, junk, junk, junk, junk, junk, junk, junk, junk, junk, junk, junk, junk, junk, junk, junk, junk, junk, junk, junk, junk, junk, junk, junk, junk, junk, junk, junk, junk, junk, junk, junk, junk, junk, junk, junk, junk, junk, junk, junk, junk, junk, junk, junk, junk, junk, junk, junk, junk, junk, junk, junk, junk, junk, junk, junk, junk, junk, junk, junk, junk, junk, junk, junk, junk, junk, junk, junk, junk, junk, junk, junk, junk, junk, junk, junk, junk, junk, junk, junk, junk, junk, junk, junk, junk, junk, junk, junk] M =
  (if (decide (x10 < (Int.ofNat x7n))) = true
    then (match x7 with
      | some a_1 => (if 0 ≤ x10 ∧ x10 < (Int.ofNat x7n)
        then (Option.bind (intOf? .i64 (AMem.ld M a_1.block (a_1.off + ((Int.toNat x10) * 2)))) fun x_2 =>
          (match x7 with
          | some a_3 => (if 0 ≤ x10 ∧ x10 < (Int.ofNat x7n)
            then (Option.bind (intOf? .i64 (AMem.ld M a_3.block ((a_3.off + ((Int.toNat x10) * 2)) + 1))) fun x_4 =>
              (if (decide (x_2 < 0)) = true
              then some (.bool false, M)
              else (if (decide (x_2 ≥ x5)) = true
                then some (.bool false, M)
                else (if (decide (x_4 < 0)) = true
                  then some (.bool false, M)
                  else (if (decide (x_4 ≥ x6)) = true
                    then some (.bool false, M)
                    else (match x8 with
                      | some a_5 => (if 0 ≤ x10 ∧ x10 < (Int.ofNat x8n)
                        then (Option.bind (intOf? .i64 (AMem.ld M a_5.block (a_5.off + ((Int.toNat x10) * 1)))) fun x_6 =>
                          (if (x_6 != (IntKind.wrap .i64 ((IntKind.wrap .i64 (x_4 * x5)) + x_2))) = true
                          then some (.bool false, M)
                          else (if (decide (x10 > 0)) = true
                            then (match x7 with
                              | some a_7 => (if 0 ≤ (IntKind.wrap .i64 (x10 - 1)) ∧ (IntKind.wrap .i64 (x10 - 1)) < (Int.ofNat x7n)
                                then (Option.bind (intOf? .i64 (AMem.ld M a_7.block (a_7.off + ((Int.toNat (IntKind.wrap .i64 (x10 - 1))) * 2)))) fun x_8 =>
                                  (match x7 with
                                  | some a_9 => (if 0 ≤ (IntKind.wrap .i64 (x10 - 1)) ∧ (IntKind.wrap .i64 (x10 - 1)) < (Int.ofNat x7n)
                                    then (Option.bind (intOf? .i64 (AMem.ld M a_9.block ((a_9.off + ((Int.toNat (IntKind.wrap .i64 (x10 - 1))) * 2)) + 1))) fun x_10 =>
                                      (Option.bind (L.call 39 [.int .i64 x_8, .int .i64 x_10] []) fun r_11 =>
                                      (Option.bind (intOf? .i64 (some r_11.1)) fun x_12 =>
                                      (Option.bind (L.call 39 [.int .i64 x_2, .int .i64 x_4] []) fun r_13 =>
                                      (Option.bind (intOf? .i64 (some r_13.1)) fun x_14 =>
                                      (if (decide (x_12 ≥ x_14)) = true
                                      then some (.bool false, M)
                                      else (match x8 with
                                        | some a_15 => (if 0 ≤ x10 ∧ x10 < (Int.ofNat x8n)
                                          then (Option.bind (intOf? .i64 (AMem.ld M a_15.block (a_15.off + ((Int.toNat x10) * 1)))) fun x_16 =>
                                            (if 0 ≤ x_16 ∧ x_16 < (Int.ofNat x9n)
                                            then (Option.bind (intOf? .i64 (AMem.ld M x9 (0 + ((Int.toNat x_16) * 1)))) fun x_17 =>
                                              (if 0 ≤ x_16 ∧ x_16 < (Int.ofNat x9n)
                                              then (Option.bind (AMem.wr M x9 (0 + ((Int.toNat x_16) * 1)) [.int .i64 (IntKind.wrap .i64 (x_17 + 1))]) fun M_18 =>
                                                code L c10_40 (postK [0, 1, 2, 3, 4, 11, 12, 13, 14, 15, 16, 17, 18, 19, 20, 21, 22, 23, 24, 25, 26, 27, 28, 29, 30, 31, 32, 33, 34, 35, 36, 37, 38, 39, 40, 41, 42, 43, 44, 45, 46, 47, 48, 49, 50, 51, 52, 53, 54, 55, 56, 57, 58, 59, 60, 61, 62, 63, 64, 65, 66, 67, 68, 69, 70, 71, 72, 73, 74, 75, 76, 77, 78, 79, 80, 81, 82, 83, 84, 85, 86, 87, 88, 89, 90, 91, 92, 93, 94, 95, 96, 97, 98, 99, 100, 101, 102, 103, 104, 105, 106, 107, 108, 109, 110, 111, 112, 113, 114, 115, 116, 117, 118, 119, 120, 121, 122, 123, 124, 125, 126, 127, 128, 129, 130, 131, 132, 133] (loopK L b10_20 (blockK 0 (seqK (code L (.clear [0, 1, 2, 3, 4, 5, 6, 7, 8, 10, 11, 12, 13, 14, 15, 16, 17, 18, 19, 20, 21, 22, 23, 24, 25, 26, 27, 28, 29, 30, 31, 32, 33, 34, 35, 36, 37, 38, 39, 40, 41, 42, 43, 44, 45, 46, 47, 48, 49, 50, 51, 52, 53, 54, 55, 56, 57, 58, 59, 60, 61, 62, 63, 64, 65, 66, 67, 68, 69, 70, 71, 72, 73, 74, 75, 76, 77, 78, 79, 80, 81, 82, 83, 84, 85, 86, 87, 88, 89, 90, 91, 92, 93, 94, 95, 96, 97, 98, 99, 100, 101, 102, 103, 104, 105, 106, 107, 108, 109, 110, 111, 112, 113, 114, 115, 116, 117, 118, 119, 120, 121, 122, 123, 124, 125, 126, 127, 128, 129, 130, 131, 132, 133] c10_41) (retK [.tmp 4])) (retK [.tmp 4]))))) [junk, junk, junk, junk, junk, .int .i64 x5, .int .i64 x6, .slice x7 x7n x7c, .slice x8 x8n x8c, .slice (some ⟨x9, 0, none⟩) x9n 1, .int .i64 x10, junk, junk, junk, junk, junk, junk, junk, junk, junk, junk, junk, junk, junk, junk, junk, junk, junk, junk, junk, junk, junk, junk, junk, junk, junk, junk, junk, junk, junk, junk, junk, junk, junk, junk, junk, junk, junk, junk, junk, junk, junk, junk, junk, junk, junk, junk, junk, junk, junk, junk, junk, junk, junk, junk, junk, junk, junk, junk, junk, junk, junk, junk, junk, junk, junk, junk, junk, junk, junk, junk, junk, junk, junk, junk, junk, junk, junk, junk, junk, junk, junk, junk, junk, junk, junk, junk, junk, junk, junk, junk, junk, junk, junk, junk, junk, junk, junk, junk, junk, junk, junk, junk, junk, junk, junk, junk, junk, junk, junk, junk, junk, junk, junk, junk, junk, junk, junk, junk, junk, junk, junk, junk, junk] M_18)
                                              else none))
                                            else none))
                                          else none)
                                        | none => none)))))))
                                    else none)
                                  | none => none))
                                else none)
                              | none => none)
                            else (match x8 with
                              | some a_19 => (if 0 ≤ x10 ∧ x10 < (Int.ofNat x8n)
                                then (Option.bind (intOf? .i64 (AMem.ld M a_19.block (a_19.off + ((Int.toNat x10) * 1)))) fun x_20 =>
                                  (if 0 ≤ x_20 ∧ x_20 < (Int.ofNat x9n)
                                  then (Option.bind (intOf? .i64 (AMem.ld M x9 (0 + ((Int.toNat x_20) * 1)))) fun x_21 =>
                                    (if 0 ≤ x_20 ∧ x_20 < (Int.ofNat x9n)
                                    then (Option.bind (AMem.wr M x9 (0 + ((Int.toNat x_20) * 1)) [.int .i64 (IntKind.wrap .i64 (x_21 + 1))]) fun M_22 =>
                                      code L c10_40 (postK [0, 1, 2, 3, 4, 11, 12, 13, 14, 15, 16, 17, 18, 19, 20, 21, 22, 23, 24, 25, 26, 27, 28, 29, 30, 31, 32, 33, 34, 35, 36, 37, 38, 39, 40, 41, 42, 43, 44, 45, 46, 47, 48, 49, 50, 51, 52, 53, 54, 55, 56, 57, 58, 59, 60, 61, 62, 63, 64, 65, 66, 67, 68, 69, 70, 71, 72, 73, 74, 75, 76, 77, 78, 79, 80, 81, 82, 83, 84, 85, 86, 87, 88, 89, 90, 91, 92, 93, 94, 95, 96, 97, 98, 99, 100, 101, 102, 103, 104, 105, 106, 107, 108, 109, 110, 111, 112, 113, 114, 115, 116, 117, 118, 119, 120, 121, 122, 123, 124, 125, 126, 127, 128, 129, 130, 131, 132, 133] (loopK L b10_20 (blockK 0 (seqK (code L (.clear [0, 1, 2, 3, 4, 5, 6, 7, 8, 10, 11, 12, 13, 14, 15, 16, 17, 18, 19, 20, 21, 22, 23, 24, 25, 26, 27, 28, 29, 30, 31, 32, 33, 34, 35, 36, 37, 38, 39, 40, 41, 42, 43, 44, 45, 46, 47, 48, 49, 50, 51, 52, 53, 54, 55, 56, 57, 58, 59, 60, 61, 62, 63, 64, 65, 66, 67, 68, 69, 70, 71, 72, 73, 74, 75, 76, 77, 78, 79, 80, 81, 82, 83, 84, 85, 86, 87, 88, 89, 90, 91, 92, 93, 94, 95, 96, 97, 98, 99, 100, 101, 102, 103, 104, 105, 106, 107, 108, 109, 110, 111, 112, 113, 114, 115, 116, 117, 118, 119, 120, 121, 122, 123, 124, 125, 126, 127, 128, 129, 130, 131, 132, 133] c10_41) (retK [.tmp 4])) (retK [.tmp 4]))))) [junk, junk, junk, junk, junk, .int .i64 x5, .int .i64 x6, .slice x7 x7n x7c, .slice x8 x8n x8c, .slice (some ⟨x9, 0, none⟩) x9n 1, .int .i64 x10, junk, junk, junk, junk, junk, junk, junk, junk, junk, junk, junk, junk, junk, junk, junk, junk, junk, junk, junk, junk, junk, junk, junk, junk, junk, junk, junk, junk, junk, junk, junk, junk, junk, junk, junk, junk, junk, junk, junk, junk, junk, junk, junk, junk, junk, junk, junk, junk, junk, junk, junk, junk, junk, junk, junk, junk, junk, junk, junk, junk, junk, junk, junk, junk, junk, junk, junk, junk, junk, junk, junk, junk, junk, junk, junk, junk, junk, junk, junk, junk, junk, junk, junk, junk, junk, junk, junk, junk, junk, junk, junk, junk, junk, junk, junk, junk, junk, junk, junk, junk, junk, junk, junk, junk, junk, junk, junk, junk, junk, junk, junk, junk, junk, junk, junk, junk, junk, junk, junk, junk, junk, junk, junk] M_22)
                                    else none))
                                  else none))
                                else none)
                              | none => none))))
                        else none)
                      | none => none))))))
            else none)
          | none => none))
        else none)
      | none => none)
    else code L c10_41 (retK [.tmp 4]) [junk, junk, junk, junk, junk, junk, junk, junk, junk, .slice (some ⟨x9, 0, none⟩) x9n 1, junk, junk, junk, junk, junk, junk, junk, junk, junk, junk, junk, junk, junk, junk, junk, junk, junk, junk, junk, junk, junk, junk, junk, junk, junk, junk, junk, junk, junk, junk, junk, junk, junk, junk, junk, junk, junk, junk, junk, junk, junk, junk, junk, junk, junk, junk, junk, junk, junk, junk, junk, junk, junk, junk, junk, junk, junk, junk, junk, junk, junk, junk, junk, junk, junk, junk, junk, junk, junk, junk, junk, junk, junk, junk, junk, junk, junk, junk, junk, junk, junk, junk, junk, junk, junk, junk, junk, junk, junk, junk, junk, junk, junk, junk, junk, junk, junk, junk, junk, junk, junk, junk, junk, junk, junk, junk, junk, junk, junk, junk, junk, junk, junk, junk, junk, junk, junk, junk, junk, junk, junk, junk, junk, junk] M) := by kernel_rfl
theorem QP10_20_eq (L : Rec) (hL : ∀ b K t A, L.loop b K t A = code L b (loopK L b K) t A) (P10_20 : Rec → Int → Int → (Option Addr) → Nat → Nat → (Option Addr) → Nat → Nat → Nat → Nat → Int → AMem → Res) (hP10_20 : P10_20 = fun (L : Rec) (x5 : Int) (x6 : Int) (x7 : Option Addr) (x7n : Nat) (x7c : Nat) (x8 : Option Addr) (x8n : Nat) (x8c : Nat) (x9 : Nat) (x9n : Nat) (x10 : Int) (M : AMem) => L.loop b10_20 (k10_20 L) (s10_20 x5 x6 x7 x7n x7c x8 x8n x8c x9 x9n x10 M) M) (P10_40 : Rec → Int → Int → (Option Addr) → Nat → Nat → (Option Addr) → Nat → Nat → Nat → Nat → Int → AMem → Res) (hP10_40 : P10_40 = fun (L : Rec) (x5 : Int) (x6 : Int) (x7 : Option Addr) (x7n : Nat) (x7c : Nat) (x8 : Option Addr) (x8n : Nat) (x8c : Nat) (x9 : Nat) (x9n : Nat) (x10 : Int) (M : AMem) => code L c10_40 (k10_40 L) (s10_40 x5 x6 x7 x7n x7c x8 x8n x8c x9 x9n x10 M) M) (P10_41 : Rec → Nat → Nat → AMem → Res) (hP10_41 : P10_41 = fun (L : Rec) (x9 : Nat) (x9n : Nat) (M : AMem) => code L c10_41 (k10_41 L) (s10_41 x9 x9n M) M) (x5 : Int) (x6 : Int) (x7 : Option Addr) (x7n : Nat) (x7c : Nat) (x8 : Option Addr) (x8n : Nat) (x8c : Nat) (x9 : Nat) (x9n : Nat) (x10 : Int) (M : AMem) : P10_20 L x5 x6 x7 x7n x7c x8 x8n x8c x9 x9n x10 M =
  (if (decide (x10 < (Int.ofNat x7n))) = true
    then (match x7 with
      | some a_1 => (if 0 ≤ x10 ∧ x10 < (Int.ofNat x7n)
        then (Option.bind (intOf? .i64 (AMem.ld M a_1.block (a_1.off + ((Int.toNat x10) * 2)))) fun x_2 =>
          (match x7 with
          | some a_3 => (if 0 ≤ x10 ∧ x10 < (Int.ofNat x7n)
            then (Option.bind (intOf? .i64 (AMem.ld M a_3.block ((a_3.off + ((Int.toNat x10) * 2)) + 1))) fun x_4 =>
              (if (decide (x_2 < 0)) = true
              then some (.bool false, M)
              else (if (decide (x_2 ≥ x5)) = true
                then some (.bool false, M)
                else (if (decide (x_4 < 0)) = true
                  then some (.bool false, M)
                  else (if (decide (x_4 ≥ x6)) = true
                    then some (.bool false, M)
                    else (match x8 with
                      | some a_5 => (if 0 ≤ x10 ∧ x10 < (Int.ofNat x8n)
                        then (Option.bind (intOf? .i64 (AMem.ld M a_5.block (a_5.off + ((Int.toNat x10) * 1)))) fun x_6 =>
                          (if (x_6 != (IntKind.wrap .i64 ((IntKind.wrap .i64 (x_4 * x5)) + x_2))) = true
                          then some (.bool false, M)
                          else (if (decide (x10 > 0)) = true
                            then (match x7 with
                              | some a_7 => (if 0 ≤ (IntKind.wrap .i64 (x10 - 1)) ∧ (IntKind.wrap .i64 (x10 - 1)) < (Int.ofNat x7n)
                                then (Option.bind (intOf? .i64 (AMem.ld M a_7.block (a_7.off + ((Int.toNat (IntKind.wrap .i64 (x10 - 1))) * 2)))) fun x_8 =>
                                  (match x7 with
                                  | some a_9 => (if 0 ≤ (IntKind.wrap .i64 (x10 - 1)) ∧ (IntKind.wrap .i64 (x10 - 1)) < (Int.ofNat x7n)
                                    then (Option.bind (intOf? .i64 (AMem.ld M a_9.block ((a_9.off + ((Int.toNat (IntKind.wrap .i64 (x10 - 1))) * 2)) + 1))) fun x_10 =>
                                      (Option.bind (L.call 39 [.int .i64 x_8, .int .i64 x_10] []) fun r_11 =>
                                      (Option.bind (intOf? .i64 (some r_11.1)) fun x_12 =>
                                      (Option.bind (L.call 39 [.int .i64 x_2, .int .i64 x_4] []) fun r_13 =>
                                      (Option.bind (intOf? .i64 (some r_13.1)) fun x_14 =>
                                      (if (decide (x_12 ≥ x_14)) = true
                                      then some (.bool false, M)
                                      else (match x8 with
                                        | some a_15 => (if 0 ≤ x10 ∧ x10 < (Int.ofNat x8n)
                                          then (Option.bind (intOf? .i64 (AMem.ld M a_15.block (a_15.off + ((Int.toNat x10) * 1)))) fun x_16 =>
                                            (if 0 ≤ x_16 ∧ x_16 < (Int.ofNat x9n)
                                            then (Option.bind (intOf? .i64 (AMem.ld M x9 (0 + ((Int.toNat x_16) * 1)))) fun x_17 =>
                                              (if 0 ≤ x_16 ∧ x_16 < (Int.ofNat x9n)
                                              then (Option.bind (AMem.wr M x9 (0 + ((Int.toNat x_16) * 1)) [.int .i64 (IntKind.wrap .i64 (x_17 + 1))]) fun M_18 =>
                                                P10_40 L x5 x6 x7 x7n x7c x8 x8n x8c x9 x9n x10 M_18)
                                              else none))
                                            else none))
                                          else none)
                                        | none => none)))))))
                                    else none)
                                  | none => none))
                                else none)
                              | none => none)
                            else (match x8 with
                              | some a_19 => (if 0 ≤ x10 ∧ x10 < (Int.ofNat x8n)
                                then (Option.bind (intOf? .i64 (AMem.ld M a_19.block (a_19.off + ((Int.toNat x10) * 1)))) fun x_20 =>
                                  (if 0 ≤ x_20 ∧ x_20 < (Int.ofNat x9n)
                                  then (Option.bind (intOf? .i64 (AMem.ld M x9 (0 + ((Int.toNat x_20) * 1)))) fun x_21 =>
                                    (if 0 ≤ x_20 ∧ x_20 < (Int.ofNat x9n)
                                    then (Option.bind (AMem.wr M x9 (0 + ((Int.toNat x_20) * 1)) [.int .i64 (IntKind.wrap .i64 (x_21 + 1))]) fun M_22 =>
                                      P10_40 L x5 x6 x7 x7n x7c x8 x8n x8c x9 x9n x10 M_22)
                                    else none))
                                  else none))
                                else none)
                              | none => none))))
                        else none)
                      | none => none))))))
            else none)
          | none => none))
        else none)
      | none => none)
    else P10_41 L x9 x9n M) := by
  subst hP10_20; subst hP10_40; subst hP10_41; exact Eq.trans (b := code L b10_20 (loopK L b10_20 (k10_20 L)) (s10_20 x5 x6 x7 x7n x7c x8 x8n x8c x9 x9n x10 M) M) (hL b10_20 (k10_20 L) (s10_20 x5 x6 x7 x7n x7c x8 x8n x8c x9 x9n x10 M) M) (Eq.mp (by kernel_rfl) (G10_20 L b10_20 c10_40 c10_41 x5 x6 x7 x7n x7c x8 x8n x8c x9 x9n x10 M))
theorem P10_20_eq (L : Rec) (hL : ∀ b K t A, L.loop b K t A = code L b (loopK L b K) t A) (x5 : Int) (x6 : Int) (x7 : Option Addr) (x7n : Nat) (x7c : Nat) (x8 : Option Addr) (x8n : Nat) (x8c : Nat) (x9 : Nat) (x9n : Nat) (x10 : Int) (M : AMem) : P10_20 L x5 x6 x7 x7n x7c x8 x8n x8c x9 x9n x10 M =
  (if (decide (x10 < (Int.ofNat x7n))) = true
    then (match x7 with
      | some a_1 => (if 0 ≤ x10 ∧ x10 < (Int.ofNat x7n)
        then (Option.bind (intOf? .i64 (AMem.ld M a_1.block (a_1.off + ((Int.toNat x10) * 2)))) fun x_2 =>
          (match x7 with
          | some a_3 => (if 0 ≤ x10 ∧ x10 < (Int.ofNat x7n)
            then (Option.bind (intOf? .i64 (AMem.ld M a_3.block ((a_3.off + ((Int.toNat x10) * 2)) + 1))) fun x_4 =>
              (if (decide (x_2 < 0)) = true
              then some (.bool false, M)
              else (if (decide (x_2 ≥ x5)) = true
                then some (.bool false, M)
                else (if (decide (x_4 < 0)) = true
                  then some (.bool false, M)
                  else (if (decide (x_4 ≥ x6)) = true
                    then some (.bool false, M)
                    else (match x8 with
                      | some a_5 => (if 0 ≤ x10 ∧ x10 < (Int.ofNat x8n)
                        then (Option.bind (intOf? .i64 (AMem.ld M a_5.block (a_5.off + ((Int.toNat x10) * 1)))) fun x_6 =>
                          (if (x_6 != (IntKind.wrap .i64 ((IntKind.wrap .i64 (x_4 * x5)) + x_2))) = true
                          then some (.bool false, M)
                          else (if (decide (x10 > 0)) = true
                            then (match x7 with
                              | some a_7 => (if 0 ≤ (IntKind.wrap .i64 (x10 - 1)) ∧ (IntKind.wrap .i64 (x10 - 1)) < (Int.ofNat x7n)
                                then (Option.bind (intOf? .i64 (AMem.ld M a_7.block (a_7.off + ((Int.toNat (IntKind.wrap .i64 (x10 - 1))) * 2)))) fun x_8 =>
                                  (match x7 with
                                  | some a_9 => (if 0 ≤ (IntKind.wrap .i64 (x10 - 1)) ∧ (IntKind.wrap .i64 (x10 - 1)) < (Int.ofNat x7n)
                                    then (Option.bind (intOf? .i64 (AMem.ld M a_9.block ((a_9.off + ((Int.toNat (IntKind.wrap .i64 (x10 - 1))) * 2)) + 1))) fun x_10 =>
                                      (Option.bind (L.call 39 [.int .i64 x_8, .int .i64 x_10] []) fun r_11 =>
                                      (Option.bind (intOf? .i64 (some r_11.1)) fun x_12 =>
                                      (Option.bind (L.call 39 [.int .i64 x_2, .int .i64 x_4] []) fun r_13 =>
                                      (Option.bind (intOf? .i64 (some r_13.1)) fun x_14 =>
                                      (if (decide (x_12 ≥ x_14)) = true
                                      then some (.bool false, M)
                                      else (match x8 with
                                        | some a_15 => (if 0 ≤ x10 ∧ x10 < (Int.ofNat x8n)
                                          then (Option.bind (intOf? .i64 (AMem.ld M a_15.block (a_15.off + ((Int.toNat x10) * 1)))) fun x_16 =>
                                            (if 0 ≤ x_16 ∧ x_16 < (Int.ofNat x9n)
                                            then (Option.bind (intOf? .i64 (AMem.ld M x9 (0 + ((Int.toNat x_16) * 1)))) fun x_17 =>
                                              (if 0 ≤ x_16 ∧ x_16 < (Int.ofNat x9n)
                                              then (Option.bind (AMem.wr M x9 (0 + ((Int.toNat x_16) * 1)) [.int .i64 (IntKind.wrap .i64 (x_17 + 1))]) fun M_18 =>
                                                P10_40 L x5 x6 x7 x7n x7c x8 x8n x8c x9 x9n x10 M_18)
                                              else none))
                                            else none))
                                          else none)
                                        | none => none)))))))
                                    else none)
                                  | none => none))
                                else none)
                              | none => none)
                            else (match x8 with
                              | some a_19 => (if 0 ≤ x10 ∧ x10 < (Int.ofNat x8n)
                                then (Option.bind (intOf? .i64 (AMem.ld M a_19.block (a_19.off + ((Int.toNat x10) * 1)))) fun x_20 =>
                                  (if 0 ≤ x_20 ∧ x_20 < (Int.ofNat x9n)
                                  then (Option.bind (intOf? .i64 (AMem.ld M x9 (0 + ((Int.toNat x_20) * 1)))) fun x_21 =>
                                    (if 0 ≤ x_20 ∧ x_20 < (Int.ofNat x9n)
                                    then (Option.bind (AMem.wr M x9 (0 + ((Int.toNat x_20) * 1)) [.int .i64 (IntKind.wrap .i64 (x_21 + 1))]) fun M_22 =>
                                      P10_40 L x5 x6 x7 x7n x7c x8 x8n x8c x9 x9n x10 M_22)
                                    else none))
                                  else none))
                                else none)
                              | none => none))))
                        else none)
                      | none => none))))))
            else none)
          | none => none))
        else none)
      | none => none)
    else P10_41 L x9 x9n M) := QP10_20_eq L hL P10_20 (Classical.choose_spec XP10_20) P10_40 (Classical.choose_spec XP10_40) P10_41 (Classical.choose_spec XP10_41) x5 x6 x7 x7n x7c x8 x8n x8c x9 x9n x10 M
theorem G10_40 (L : Rec) (b10_20 c10_41 : ACode) (x5 : Int) (x6 : Int) (x7 : Option Addr) (x7n : Nat) (x7c : Nat) (x8 : Option Addr) (x8n : Nat) (x8c : Nat) (x9 : Nat) (x9n : Nat) (x10 : Int) (M : AMem) : code L (.ops o10_40) (postK [0, 1, 2, 3, 4, 11, 12, 13, 14, 15, 16, 17, 18, 19, 20, 21, 22, 23, 24, 25, 26, 27, 28, 29, 30, 31, 32, 33, 34, 35, 36, 37, 38, 39, 40, 41, 42, 43, 44, 45, 46, 47, 48, 49, 50, 51, 52, 53, 54, 55, 56, 57, 58, 59, 60, 61, 62, 63, 64, 65, 66, 67, 68, 69, 70, 71, 72, 73, 74, 75, 76, 77, 78, 79, 80, 81, 82, 83, 84, 85, 86, 87, 88, 89, 90, 91, 92, 93, 94, 95, 96, 97, 98, 99, 100, 101, 102, 103, 104, 105, 106, 107, 108, 109, 110, 111, 112, 113, 114, 115, 116, 117, 118, 119, 120, 121, 122, 123, 124, 125, 126, 127, 128, 129, 130, 131, 132, 133] (loopK L b10_20 (blockK 0 (seqK (code L (.clear [0, 1, 2, 3, 4, 5, 6, 7, 8, 10, 11, 12, 13, 14, 15, 16, 17, 18, 19, 20, 21, 22, 23, 24, 25, 26, 27, 28, 29, 30, 31, 32, 33, 34, 35, 36, 37, 38, 39, 40, 41, 42, 43, 44, 45, 46, 47, 48, 49, 50, 51, 52, 53, 54, 55, 56, 57, 58, 59, 60, 61, 62, 63, 64, 65, 66, 67, 68, 69, 70, 71, 72, 73, 74, 75, 76, 77, 78, 79, 80, 81, 82, 83, 84, 85, 86, 87, 88, 89, 90, 91, 92, 93, 94, 95, 96, 97, 98, 99, 100, 101, 102, 103, 104, 105, 106, 107, 108, 109, 110, 111, 112, 113, 114, 115, 116, 117, 118, 119, 120, 121, 122, 123, 124, 125, 126, 127, 128, 129, 130, 131, 132, 133] c10_41) (retK [.tmp 4])) (retK [.tmp 4]))))) [junk, junk, junk, junk, junk, .int .i64 x5, .int .i64 x6, .slice x7 x7n x7c, .slice x8 x8n x8c, .slice (some ⟨x9, 0, none⟩) x9n 1, .int .i64 x10, junk, junk, junk, junk, junk, junk, junk, junk, junk, junk, junk, junk, junk, junk, junk, junk, junk, junk, junk, junk, junk, junk, junk, junk, junk, junk, junk, junk, junk, junk, junk, junk, junk, junk, junk, junk, junk, junk, junk, junk, junk, junk, junk, junk, junk, junk, junk, junk, junk, junk, junk, junk, junk, junk, junk, junk, junk, junk, junk, junk, junk, junk, junk, junk, junk, junk, junk, junk, junk, junk, junk, junk, junk, junk, junk, junk, junk, junk, junk, junk, junk, junk, junk, junk, junk, junk, junk, junk, junk, junk, junk, junk, junk, junk, junk, junk, junk, junk, junk, junk, junk, junk, junk, junk, junk, junk, junk, junk, junk, junk, junk, junk, junk, junk, junk, junk, junk, junk, junk, junk, junk, junk, junk] M =
  L.loop b10_20 (blockK 0 (seqK (code L (.clear [0, 1, 2, 3, 4, 5, 6, 7, 8, 10, 11, 12, 13, 14, 15, 16, 17, 18, 19, 20, 21, 22, 23, 24, 25, 26, 27, 28, 29, 30, 31, 32, 33, 34, 35, 36, 37, 38, 39, 40, 41, 42, 43, 44, 45, 46, 47, 48, 49, 50, 51, 52, 53, 54, 55, 56, 57, 58, 59, 60, 61, 62, 63, 64, 65, 66, 67, 68, 69, 70, 71, 72, 73, 74, 75, 76, 77, 78, 79, 80, 81, 82, 83, 84, 85, 86, 87, 88, 89, 90, 91, 92, 93, 94, 95, 96, 97, 98, 99, 100, 101, 102, 103, 104, 105, 106, 107, 108, 109, 110, 111, 112, 113, 114, 115, 116, 117, 118, 119, 120, 121, 122, 123, 124, 125, 126, 127, 128, 129, 130, 131, 132, 133] c10_41) (retK [.tmp 4])) (retK [.tmp 4]))) [junk, junk, junk, junk, junk, .int .i64 x5, .int .i64 x6, .slice x7 x7n x7c, .slice x8 x8n x8c, .slice (some ⟨x9, 0, none⟩) x9n 1, .int .i64 (IntKind.wrap .i64 (x10 + 1)), junk, junk, junk, junk, junk, junk, junk, junk, junk, junk, junk, junk, junk, junk, junk, junk, junk, junk, junk, junk, junk, junk, junk, junk, junk, junk, junk, junk, junk, junk, junk, junk, junk, junk, junk, junk, junk, junk, junk, junk, junk, junk, junk, junk, junk, junk, junk, junk, junk, junk, junk, junk, junk, junk, junk, junk, junk, junk, junk, junk, junk, junk, junk, junk, junk, junk, junk, junk, junk, junk, junk, junk, junk, junk, junk, junk, junk, junk, junk, junk, junk, junk, junk, junk, junk, junk, junk, junk, junk, junk, junk, junk, junk, junk, junk, junk, junk, junk, junk, junk, junk, junk, junk, junk, junk, junk, junk, junk, junk, junk, junk, junk, junk, junk, junk, junk, junk, junk, junk, junk, junk, junk, junk] M := by kernel_rfl
theorem QP10_40_eq (L : Rec) (P10_20 : Rec → Int → Int → (Option Addr) → Nat → Nat → (Option Addr) → Nat → Nat → Nat → Nat → Int → AMem → Res) (hP10_20 : P10_20 = fun (L : Rec) (x5 : Int) (x6 : Int) (x7 : Option Addr) (x7n : Nat) (x7c : Nat) (x8 : Option Addr) (x8n : Nat) (x8c : Nat) (x9 : Nat) (x9n : Nat) (x10 : Int) (M : AMem) => L.loop b10_20 (k10_20 L) (s10_20 x5 x6 x7 x7n x7c x8 x8n x8c x9 x9n x10 M) M) (P10_40 : Rec → Int → Int → (Option Addr) → Nat → Nat → (Option Addr) → Nat → Nat → Nat → Nat → Int → AMem → Res) (hP10_40 : P10_40 = fun (L : Rec) (x5 : Int) (x6 : Int) (x7 : Option Addr) (x7n : Nat) (x7c : Nat) (x8 : Option Addr) (x8n : Nat) (x8c : Nat) (x9 : Nat) (x9n : Nat) (x10 : Int) (M : AMem) => code L c10_40 (k10_40 L) (s10_40 x5 x6 x7 x7n x7c x8 x8n x8c x9 x9n x10 M) M) (x5 : Int) (x6 : Int) (x7 : Option Addr) (x7n : Nat) (x7c : Nat) (x8 : Option Addr) (x8n : Nat) (x8c : Nat) (x9 : Nat) (x9n : Nat) (x10 : Int) (M : AMem) : P10_40 L x5 x6 x7 x7n x7c x8 x8n x8c x9 x9n x10 M =
  P10_20 L x5 x6 x7 x7n x7c x8 x8n x8c x9 x9n (IntKind.wrap .i64 (x10 + 1)) M := by
  subst hP10_20; subst hP10_40; exact Eq.mp (by kernel_rfl) (G10_40 L b10_20 c10_41 x5 x6 x7 x7n x7c x8 x8n x8c x9 x9n x10 M)
theorem P10_40_eq (L : Rec) (x5 : Int) (x6 : Int) (x7 : Option Addr) (x7n : Nat) (x7c : Nat) (x8 : Option Addr) (x8n : Nat) (x8c : Nat) (x9 : Nat) (x9n : Nat) (x10 : Int) (M : AMem) : P10_40 L x5 x6 x7 x7n x7c x8 x8n x8c x9 x9n x10 M =
  P10_20 L x5 x6 x7 x7n x7c x8 x8n x8c x9 x9n (IntKind.wrap .i64 (x10 + 1)) M := QP10_40_eq L P10_20 (Classical.choose_spec XP10_20) P10_40 (Classical.choose_spec XP10_40) x5 x6 x7 x7n x7c x8 x8n x8c x9 x9n x10 M
theorem G10_41 (L : Rec) (b10_45 c10_62 : ACode) (x9 : Nat) (x9n : Nat) (M : AMem) : code L (.seq (.seq (.ops o10_43) (.block 2 (.clear [0, 1, 2, 3, 4, 5, 6, 7, 8, 10, 11, 12, 14, 15, 16, 17, 18, 19, 20, 21, 22, 23, 24, 25, 26, 27, 28, 29, 30, 31, 32, 33, 34, 35, 36, 37, 38, 39, 40, 41, 42, 43, 44, 45, 46, 47, 48, 49, 50, 51, 52, 53, 54, 55, 56, 57, 58, 59, 60, 61, 62, 63, 64, 65, 66, 67, 68, 69, 70, 71, 72, 73, 74, 75, 76, 77, 78, 79, 80, 81, 82, 83, 84, 85, 86, 87, 88, 89, 90, 91, 92, 93, 94, 95, 96, 97, 98, 99, 100, 101, 102, 103, 104, 105, 106, 107, 108, 109, 110, 111, 112, 113, 114, 115, 116, 117, 118, 119, 120, 121, 122, 123, 124, 125, 126, 127, 128, 129, 130, 131, 132, 133] (.loop b10_45)))) (.clear [0, 1, 2, 3, 4, 5, 6, 7, 8, 9, 10, 11, 12, 13, 14, 15, 16, 17, 18, 19, 20, 21, 22, 23, 24, 25, 26, 27, 28, 29, 30, 31, 32, 33, 34, 35, 36, 37, 38, 39, 40, 41, 42, 43, 44, 45, 46, 47, 48, 49, 50, 51, 52, 53, 54, 55, 56, 57, 58, 59, 60, 61, 62, 63, 64, 65, 66, 67, 68, 69, 70, 71, 72, 73, 74, 75, 76, 77, 78, 79, 80, 81, 82, 83, 84, 85, 86, 87, 88, 89, 90, 91, 92, 93, 94, 95, 96, 97, 98, 99, 100, 101, 102, 103, 104, 105, 106, 107, 108, 109, 110, 111, 112, 113, 114, 115, 116, 117, 118, 119, 120, 121, 122, 123, 124, 125, 126, 127, 128, 129, 130, 131, 132, 133] c10_62)) (retK [.tmp 4]) [junk, junk, junk, junk, junk, junk, junk, junk, junk, .slice (some ⟨x9, 0, none⟩) x9n 1, junk, junk, junk, junk, junk, junk, junk, junk, junk, junk, junk, junk, junk, junk, junk, junk, junk, junk, junk, junk, junk, junk, junk, junk, junk, junk, junk, junk, junk, junk, junk, junk, junk, junk, junk, junk, junk, junk, junk, junk, junk, junk, junk, junk, junk, junk, junk, junk, junk, junk, junk, junk, junk, junk, junk, junk, junk, junk, junk, junk, junk, junk, junk, junk, junk, junk, junk, junk, junk, junk, junk, junk, junk, junk, junk, junk, junk, junk, junk, junk, junk, junk, junk, junk, junk, junk, junk, junk, junk, junk, junk, junk, junk, junk, junk, junk, junk, junk, junk, junk, junk, junk, junk, junk, junk, junk, junk, junk, junk, junk, junk, junk, junk, junk, junk, junk, junk, junk, junk, junk, junk, junk, junk, junk] M =
  L.loop b10_45 (blockK 2 (seqK (code L (.clear [0, 1, 2, 3, 4, 5, 6, 7, 8, 9, 10, 11, 12, 13, 14, 15, 16, 17, 18, 19, 20, 21, 22, 23, 24, 25, 26, 27, 28, 29, 30, 31, 32, 33, 34, 35, 36, 37, 38, 39, 40, 41, 42, 43, 44, 45, 46, 47, 48, 49, 50, 51, 52, 53, 54, 55, 56, 57, 58, 59, 60, 61, 62, 63, 64, 65, 66, 67, 68, 69, 70, 71, 72, 73, 74, 75, 76, 77, 78, 79, 80, 81, 82, 83, 84, 85, 86, 87, 88, 89, 90, 91, 92, 93, 94, 95, 96, 97, 98, 99, 100, 101, 102, 103, 104, 105, 106, 107, 108, 109, 110, 111, 112, 113, 114, 115, 116, 117, 118, 119, 120, 121, 122, 123, 124, 125, 126, 127, 128, 129, 130, 131, 132, 133] c10_62) (retK [.tmp 4])) (retK [.tmp 4]))) [junk, junk, junk, junk, junk, junk, junk, junk, junk, .slice (some ⟨x9, 0, none⟩) x9n 1, junk, junk, junk, .int .i64 0, junk, junk, junk, junk, junk, junk, junk, junk, junk, junk, junk, junk, junk, junk, junk, junk, junk, junk, junk, junk, junk, junk, junk, junk, junk, junk, junk, junk, junk, junk, junk, junk, junk, junk, junk, junk, junk, junk, junk, junk, junk, junk, junk, junk, junk, junk, junk, junk, junk, junk, junk, junk, junk, junk, junk, junk, junk, junk, junk, junk, junk, junk, junk, junk, junk, junk, junk, junk, junk, junk, junk, junk, junk, junk, junk, junk, junk, junk, junk, junk, junk, junk, junk, junk, junk, junk, junk, junk, junk, junk, junk, junk, junk, junk, junk, junk, junk, junk, junk, junk, junk, junk, junk, junk, junk, junk, junk, junk, junk, junk, junk, junk, junk, junk, junk, junk, junk, junk, junk, junk] M := by kernel_rfl
theorem QP10_41_eq (L : Rec) (P10_41 : Rec → Nat → Nat → AMem → Res) (hP10_41 : P10_41 = fun (L : Rec) (x9 : Nat) (x9n : Nat) (M : AMem) => code L c10_41 (k10_41 L) (s10_41 x9 x9n M) M) (P10_45 : Rec → Nat → Nat → Int → AMem → Res) (hP10_45 : P10_45 = fun (L : Rec) (x9 : Nat) (x9n : Nat) (x13 : Int) (M : AMem) => L.loop b10_45 (k10_45 L) (s10_45 x9 x9n x13 M) M) (x9 : Nat) (x9n : Nat) (M : AMem) : P10_41 L x9 x9n M =
  P10_45 L x9 x9n 0 M := by
  subst hP10_41; subst hP10_45; exact Eq.mp (by kernel_rfl) (G10_41 L b10_45 c10_62 x9 x9n M)
theorem P10_41_eq (L : Rec) (x9 : Nat) (x9n : Nat) (M : AMem) : P10_41 L x9 x9n M =
  P10_45 L x9 x9n 0 M := QP10_41_eq L P10_41 (Classical.choose_spec XP10_41) P10_45 (Classical.choose_spec XP10_45) x9 x9n M
theorem G10_45 (L : Rec) (b10_45 c10_61 c10_62 : ACode) (x9 : Nat) (x9n : Nat) (x13 : Int) (M : AMem) : code L (.post (.seq (.seq (.ops o10_48) (.cond (.tmp 125) (.skip) (.exit 2))) (.seq (.block 3 (.seq (.ops o10_55) (.cond (.tmp 132) (.seq (.ops o10_58) (.ret)) (.skip)))) (.clear [0, 1, 2, 3, 4, 5, 6, 7, 8, 10, 11, 12, 14, 15, 16, 17, 18, 19, 20, 21, 22, 23, 24, 25, 26, 27, 28, 29, 30, 31, 32, 33, 34, 35, 36, 37, 38, 39, 40, 41, 42, 43, 44, 45, 46, 47, 48, 49, 50, 51, 52, 53, 54, 55, 56, 57, 58, 59, 60, 61, 62, 63, 64, 65, 66, 67, 68, 69, 70, 71, 72, 73, 74, 75, 76, 77, 78, 79, 80, 81, 82, 83, 84, 85, 86, 87, 88, 89, 90, 91, 92, 93, 94, 95, 96, 97, 98, 99, 100, 101, 102, 103, 104, 105, 106, 107, 108, 109, 110, 111, 112, 113, 114, 115, 116, 117, 118, 119, 120, 121, 122, 123, 124, 125, 126, 127, 128, 129, 130, 131, 132, 133] c10_61))) [0, 1, 2, 3, 4, 5, 6, 7, 8, 10, 11, 12, 14, 15, 16, 17, 18, 19, 20, 21, 22, 23, 24, 25, 26, 27, 28, 29, 30, 31, 32, 33, 34, 35, 36, 37, 38, 39, 40, 41, 42, 43, 44, 45, 46, 47, 48, 49, 50, 51, 52, 53, 54, 55, 56, 57, 58, 59, 60, 61, 62, 63, 64, 65, 66, 67, 68, 69, 70, 71, 72, 73, 74, 75, 76, 77, 78, 79, 80, 81, 82, 83, 84, 85, 86, 87, 88, 89, 90, 91, 92, 93, 94, 95, 96, 97, 98, 99, 100, 101, 102, 103, 104, 105, 106, 107, 108, 109, 110, 111, 112, 113, 114, 115, 116, 117, 118, 119, 120, 121, 122, 123, 124, 125, 126, 127, 128, 129, 130, 131, 132, 133]) (loopK L b10_45 (blockK 2 (seqK (code L (.clear [0, 1, 2, 3, 4, 5, 6, 7, 8, 9, 10, 11, 12, 13, 14, 15, 16, 17, 18, 19, 20, 21, 22, 23, 24, 25, 26, 27, 28, 29, 30, 31, 32, 33, 34, 35, 36, 37, 38, 39, 40, 41, 42, 43, 44, 45, 46, 47, 48, 49, 50, 51, 52, 53, 54, 55, 56, 57, 58, 59, 60, 61, 62, 63, 64, 65, 66, 67, 68, 69, 70, 71, 72, 73, 74, 75, 76, 77, 78, 79, 80, 81, 82, 83, 84, 85, 86, 87, 88, 89, 90, 91, 92, 93, 94, 95, 96, 97, 98, 99, 100, 101, 102, 103, 104, 105, 106, 107, 108, 109, 110, 111, 112, 113, 114, 115, 116, 117, 118, 119, 120, 121, 122, 123, 124, 125, 126, 127, 128, 129, 130, 131, 132, 133] c10_62) (retK [.tmp 4])) (retK [.tmp 4])))) [junk, junk, junk, junk, junk, junk, junk, junk, junk, .slice (some ⟨x9, 0, none⟩) x9n 1, junk, junk, junk, .int .i64 x13, junk, junk, junk, junk, junk, junk, junk, junk, junk, junk, junk, junk, junk, junk, junk, junk, junk, junk, junk, junk, junk, junk, junk, junk, junk, junk, junk, junk, junk, junk, junk, junk, junk, junk, junk, junk, junk, junk, junk, junk, junk, junk, junk, junk, junk, junk, junk, junk, junk, junk, junk, junk, junk, junk, junk, junk, junk, junk, junk, junk, junk, junk, junk, junk, junk, junk, junk, junk, junk, junk, junk, junk, junk, junk, junk, junk, junk, junk, junk, junk, junk, junk, junk, junk, junk, junk, junk, junk, junk, junk, junk, junk, junk, junk, junk, junk, junk, junk, junk, junk, junk, junk, junk, junk, junk, junk, junk, junk, junk, junk, junk, junk, junk, junk, junk, junk, junk, junk, junk, junk] M =
  (if (decide (x13 < (Int.ofNat x9n))) = true
    then (if 0 ≤ x13 ∧ x13 < (Int.ofNat x9n)
      then (Option.bind (intOf? .i64 (AMem.ld M x9 (0 + ((Int.toNat x13) * 1)))) fun x_1 =>
        (if (x_1 != 1) = true
        then some (.bool false, M)
        else code L c10_61 (postK [0, 1, 2, 3, 4, 5, 6, 7, 8, 10, 11, 12, 14, 15, 16, 17, 18, 19, 20, 21, 22, 23, 24, 25, 26, 27, 28, 29, 30, 31, 32, 33, 34, 35, 36, 37, 38, 39, 40, 41, 42, 43, 44, 45, 46, 47, 48, 49, 50, 51, 52, 53, 54, 55, 56, 57, 58, 59, 60, 61, 62, 63, 64, 65, 66, 67, 68, 69, 70, 71, 72, 73, 74, 75, 76, 77, 78, 79, 80, 81, 82, 83, 84, 85, 86, 87, 88, 89, 90, 91, 92, 93, 94, 95, 96, 97, 98, 99, 100, 101, 102, 103, 104, 105, 106, 107, 108, 109, 110, 111, 112, 113, 114, 115, 116, 117, 118, 119, 120, 121, 122, 123, 124, 125, 126, 127, 128, 129, 130, 131, 132, 133] (loopK L b10_45 (blockK 2 (seqK (code L (.clear [0, 1, 2, 3, 4, 5, 6, 7, 8, 9, 10, 11, 12, 13, 14, 15, 16, 17, 18, 19, 20, 21, 22, 23, 24, 25, 26, 27, 28, 29, 30, 31, 32, 33, 34, 35, 36, 37, 38, 39, 40, 41, 42, 43, 44, 45, 46, 47, 48, 49, 50, 51, 52, 53, 54, 55, 56, 57, 58, 59, 60, 61, 62, 63, 64, 65, 66, 67, 68, 69, 70, 71, 72, 73, 74, 75, 76, 77, 78, 79, 80, 81, 82, 83, 84, 85, 86, 87, 88, 89, 90, 91, 92, 93, 94, 95, 96, 97, 98, 99, 100, 101, 102, 103, 104, 105, 106, 107, 108, 109, 110, 111, 112, 113, 114, 115, 116, 117, 118, 119, 120, 121, 122, 123, 124, 125, 126, 127, 128, 129, 130, 131, 132, 133] c10_62) (retK [.tmp 4])) (retK [.tmp 4]))))) [junk, junk, junk, junk, junk, junk, junk, junk, junk, .slice (some ⟨x9, 0, none⟩) x9n 1, junk, junk, junk, .int .i64 x13, junk, junk, junk, junk, junk, junk, junk, junk, junk, junk, junk, junk, junk, junk, junk, junk, junk, junk, junk, junk, junk, junk, junk, junk, junk, junk, junk, junk, junk, junk, junk, junk, junk, junk, junk, junk, junk, junk, junk, junk, junk, junk, junk, junk, junk, junk, junk, junk, junk, junk, junk, junk, junk, junk, junk, junk, junk, junk, junk, junk, junk, junk, junk, junk, junk, junk, junk, junk, junk, junk, junk, junk, junk, junk, junk, junk, junk, junk, junk, junk, junk, junk, junk, junk, junk, junk, junk, junk, junk, junk, junk, junk, junk, junk, junk, junk, junk, junk, junk, junk, junk, junk, junk, junk, junk, junk, junk, junk, junk, junk, junk, junk, junk, junk, junk, junk, junk, junk, junk, junk] M))
      else none)
    else code L c10_62 (retK [.tmp 4]) [junk, junk, junk, junk, junk, junk, junk, junk, junk, junk, junk, junk, junk, junk, junk, junk, junk, junk, junk, junk, junk, junk, junk, junk, junk, junk, junk, junk, junk, junk, junk, junk, junk, junk, junk, junk, junk, junk, junk, junk, junk, junk, junk, junk, junk, junk, junk, junk, junk, junk, junk, junk, junk, junk, junk, junk, junk, junk, junk, junk, junk, junk, junk, junk, junk, junk, junk, junk, junk, junk, junk, junk, junk, junk, junk, junk, junk, junk, junk, junk, junk, junk, junk, junk, junk, junk, junk, junk, junk, junk, junk, junk, junk, junk, junk, junk, junk, junk, junk, junk, junk, junk, junk, junk, junk, junk, junk, junk, junk, junk, junk, junk, junk, junk, junk, junk, junk, junk, junk, junk, junk, junk, junk, junk, junk, junk, junk, junk, junk, junk, junk, junk, junk, junk] M) := by kernel_rfl
theorem QP10_45_eq (L : Rec) (hL : ∀ b K t A, L.loop b K t A = code L b (loopK L b K) t A) (P10_45 : Rec → Nat → Nat → Int → AMem → Res) (hP10_45 : P10_45 = fun (L : Rec) (x9 : Nat) (x9n : Nat) (x13 : Int) (M : AMem) => L.loop b10_45 (k10_45 L) (s10_45 x9 x9n x13 M) M) (P10_61 : Rec → Nat → Nat → Int → AMem → Res) (hP10_61 : P10_61 = fun (L : Rec) (x9 : Nat) (x9n : Nat) (x13 : Int) (M : AMem) => code L c10_61 (k10_61 L) (s10_61 x9 x9n x13 M) M) (P10_62 : Rec → AMem → Res) (hP10_62 : P10_62 = fun (L : Rec) (M : AMem) => code L c10_62 (k10_62 L) (s10_62 M) M) (x9 : Nat) (x9n : Nat) (x13 : Int) (M : AMem) : P10_45 L x9 x9n x13 M =
  (if (decide (x13 < (Int.ofNat x9n))) = true
    then (if 0 ≤ x13 ∧ x13 < (Int.ofNat x9n)
      then (Option.bind (intOf? .i64 (AMem.ld M x9 (0 + ((Int.toNat x13) * 1)))) fun x_1 =>
        (if (x_1 != 1) = true
        then some (.bool false, M)
        else P10_61 L x9 x9n x13 M))
      else none)
    else P10_62 L M) := by
  subst hP10_45; subst hP10_61; subst hP10_62; exact Eq.trans (b := code L b10_45 (loopK L b10_45 (k10_45 L)) (s10_45 x9 x9n x13 M) M) (hL b10_45 (k10_45 L) (s10_45 x9 x9n x13 M) M) (Eq.mp (by kernel_rfl) (G10_45 L b10_45 c10_61 c10_62 x9 x9n x13 M))
theorem P10_45_eq (L : Rec) (hL : ∀ b K t A, L.loop b K t A = code L b (loopK L b K) t A) (x9 : Nat) (x9n : Nat) (x13 : Int) (M : AMem) : P10_45 L x9 x9n x13 M =
  (if (decide (x13 < (Int.ofNat x9n))) = true
    then (if 0 ≤ x13 ∧ x13 < (Int.ofNat x9n)
      then (Option.bind (intOf? .i64 (AMem.ld M x9 (0 + ((Int.toNat x13) * 1)))) fun x_1 =>
        (if (x_1 != 1) = true
        then some (.bool false, M)
        else P10_61 L x9 x9n x13 M))
      else none)
    else P10_62 L M) := QP10_45_eq L hL P10_45 (Classical.choose_spec XP10_45) P10_61 (Classical.choose_spec XP10_61) P10_62 (Classical.choose_spec XP10_62) x9 x9n x13 M
theorem G10_61 (L : Rec) (b10_45 c10_62 : ACode) (x9 : Nat) (x9n : Nat) (x13 : Int) (M : AMem) : code L (.ops o10_61) (postK [0, 1, 2, 3, 4, 5, 6, 7, 8, 10, 11, 12, 14, 15, 16, 17, 18, 19, 20, 21, 22, 23, 24, 25, 26, 27, 28, 29, 30, 31, 32, 33, 34, 35, 36, 37, 38, 39, 40, 41, 42, 43, 44, 45, 46, 47, 48, 49, 50, 51, 52, 53, 54, 55, 56, 57, 58, 59, 60, 61, 62, 63, 64, 65, 66, 67, 68, 69, 70, 71, 72, 73, 74, 75, 76, 77, 78, 79, 80, 81, 82, 83, 84, 85, 86, 87, 88, 89, 90, 91, 92, 93, 94, 95, 96, 97, 98, 99, 100, 101, 102, 103, 104, 105, 106, 107, 108, 109, 110, 111, 112, 113, 114, 115, 116, 117, 118, 119, 120, 121, 122, 123, 124, 125, 126, 127, 128, 129, 130, 131, 132, 133] (loopK L b10_45 (blockK 2 (seqK (code L (.clear [0, 1, 2, 3, 4, 5, 6, 7, 8, 9, 10, 11, 12, 13, 14, 15, 16, 17, 18, 19, 20, 21, 22, 23, 24, 25, 26, 27, 28, 29, 30, 31, 32, 33, 34, 35, 36, 37, 38, 39, 40, 41, 42, 43, 44, 45, 46, 47, 48, 49, 50, 51, 52, 53, 54, 55, 56, 57, 58, 59, 60, 61, 62, 63, 64, 65, 66, 67, 68, 69, 70, 71, 72, 73, 74, 75, 76, 77, 78, 79, 80, 81, 82, 83, 84, 85, 86, 87, 88, 89, 90, 91, 92, 93, 94, 95, 96, 97, 98, 99, 100, 101, 102, 103, 104, 105, 106, 107, 108, 109, 110, 111, 112, 113, 114, 115, 116, 117, 118, 119, 120, 121, 122, 123, 124, 125, 126, 127, 128, 129, 130, 131, 132, 133] c10_62) (retK [.tmp 4])) (retK [.tmp 4]))))) [junk, junk, junk, junk, junk, junk, junk, junk, junk, .slice (some ⟨x9, 0, none⟩) x9n 1, junk, junk, junk, .int .i64 x13, junk, junk, junk, junk, junk, junk, junk, junk, junk, junk, junk, junk, junk, junk, junk, junk, junk, junk, junk, junk, junk, junk, junk, junk, junk, junk, junk, junk, junk, junk, junk, junk, junk, junk, junk, junk, junk, junk, junk, junk, junk, junk, junk, junk, junk, junk, junk, junk, junk, junk, junk, junk, junk, junk, junk, junk, junk, junk, junk, junk, junk, junk, junk, junk, junk, junk, junk, junk, junk, junk, junk, junk, junk, junk, junk, junk, junk, junk, junk, junk, junk, junk, junk, junk, junk, junk, junk, junk, junk, junk, junk, junk, junk, junk, junk, junk, junk, junk, junk, junk, junk, junk, junk, junk, junk, junk, junk, junk, junk, junk, junk, junk, junk, junk, junk, junk, junk, junk, junk, junk] M =
  L.loop b10_45 (blockK 2 (seqK (code L (.clear [0, 1, 2, 3, 4, 5, 6, 7, 8, 9, 10, 11, 12, 13, 14, 15, 16, 17, 18, 19, 20, 21, 22, 23, 24, 25, 26, 27, 28, 29, 30, 31, 32, 33, 34, 35, 36, 37, 38, 39, 40, 41, 42, 43, 44, 45, 46, 47, 48, 49, 50, 51, 52, 53, 54, 55, 56, 57, 58, 59, 60, 61, 62, 63, 64, 65, 66, 67, 68, 69, 70, 71, 72, 73, 74, 75, 76, 77, 78, 79, 80, 81, 82, 83, 84, 85, 86, 87, 88, 89, 90, 91, 92, 93, 94, 95, 96, 97, 98, 99, 100, 101, 102, 103, 104, 105, 106, 107, 108, 109, 110, 111, 112, 113, 114, 115, 116, 117, 118, 119, 120, 121, 122, 123, 124, 125, 126, 127, 128, 129, 130, 131, 132, 133] c10_62) (retK [.tmp 4])) (retK [.tmp 4]))) [junk, junk, junk, junk, junk, junk, junk, junk, junk, .slice (some ⟨x9, 0, none⟩) x9n 1, junk, junk, junk, .int .i64 (IntKind.wrap .i64 (x13 + 1)), junk, junk, junk, junk, junk, junk, junk, junk, junk, junk, junk, junk, junk, junk, junk, junk, junk, junk, junk, junk, junk, junk, junk, junk, junk, junk, junk, junk, junk, junk, junk, junk, junk, junk, junk, junk, junk, junk, junk, junk, junk, junk, junk, junk, junk, junk, junk, junk, junk, junk, junk, junk, junk, junk, junk, junk, junk, junk, junk, junk, junk, junk, junk, junk, junk, junk, junk, junk, junk, junk, junk, junk, junk, junk, junk, junk, junk, junk, junk, junk, junk, junk, junk, junk, junk, junk, junk, junk, junk, junk, junk, junk, junk, junk, junk, junk, junk, junk, junk, junk, junk, junk, junk, junk, junk, junk, junk, junk, junk, junk, junk, junk, junk, junk, junk, junk, junk, junk, junk, junk] M := by kernel_rfl
theorem QP10_61_eq (L : Rec) (P10_45 : Rec → Nat → Nat → Int → AMem → Res) (hP10_45 : P10_45 = fun (L : Rec) (x9 : Nat) (x9n : Nat) (x13 : Int) (M : AMem) => L.loop b10_45 (k10_45 L) (s10_45 x9 x9n x13 M) M) (P10_61 : Rec → Nat → Nat → Int → AMem → Res) (hP10_61 : P10_61 = fun (L : Rec) (x9 : Nat) (x9n : Nat) (x13 : Int) (M : AMem) => code L c10_61 (k10_61 L) (s10_61 x9 x9n x13 M) M) (x9 : Nat) (x9n : Nat) (x13 : Int) (M : AMem) : P10_61 L x9 x9n x13 M =
  P10_45 L x9 x9n (IntKind.wrap .i64 (x13 + 1)) M := by
  subst hP10_45; subst hP10_61; exact Eq.mp (by kernel_rfl) (G10_61 L b10_45 c10_62 x9 x9n x13 M)
theorem P10_61_eq (L : Rec) (x9 : Nat) (x9n : Nat) (x13 : Int) (M : AMem) : P10_61 L x9 x9n x13 M =
  P10_45 L x9 x9n (IntKind.wrap .i64 (x13 + 1)) M := QP10_61_eq L P10_45 (Classical.choose_spec XP10_45) P10_61 (Classical.choose_spec XP10_61) x9 x9n x13 M
theorem G10_62 (L : Rec) (M : AMem) : code L (.seq (.ops o10_63) (.ret)) (retK [.tmp 4]) [junk, junk, junk, junk, junk, junk, junk, junk, junk, junk, junk, junk, junk, junk, junk, junk, junk, junk, junk, junk, junk, junk, junk, junk, junk, junk, junk, junk, junk, junk, junk, junk, junk, junk, junk, junk, junk, junk, junk, junk, junk, junk, junk, junk, junk, junk, junk, junk, junk, junk, junk, junk, junk, junk, junk, junk, junk, junk, junk, junk, junk, junk, junk, junk, junk, junk, junk, junk, junk, junk, junk, junk, junk, junk, junk, junk, junk, junk, junk, junk, junk, junk, junk, junk, junk, junk, junk, junk, junk, junk, junk, junk, junk, junk, junk, junk, junk, junk, junk, junk, junk, junk, junk, junk, junk, junk, junk, junk, junk, junk, junk, junk, junk, junk, junk, junk, junk, junk, junk, junk, junk, junk, junk, junk, junk, junk, junk, junk, junk, junk, junk, junk, junk, junk] M =
  (Option.bind (L.call 42 [] []) fun r_1 =>
    (Option.bind (boolOf? (some r_1.1)) fun q_2 =>
    some (.bool q_2, M))) := by kernel_rfl
theorem QP10_62_eq (L : Rec) (P10_62 : Rec → AMem → Res) (hP10_62 : P10_62 = fun (L : Rec) (M : AMem) => code L c10_62 (k10_62 L) (s10_62 M) M) (M : AMem) : P10_62 L M =
  (Option.bind (L.call 42 [] []) fun r_1 =>
    (Option.bind (boolOf? (some r_1.1)) fun q_2 =>
    some (.bool q_2, M))) := by
  subst hP10_62; exact Eq.mp (by kernel_rfl) (G10_62 L  M)
theorem P10_62_eq (L : Rec) (M : AMem) : P10_62 L M =
  (Option.bind (L.call 42 [] []) fun r_1 =>
    (Option.bind (boolOf? (some r_1.1)) fun q_2 =>
    some (.bool q_2, M))) := QP10_62_eq L P10_62 (Classical.choose_spec XP10_62) M
theorem GE10 (L : Rec) (b10_20 c10_41 : ACode) (x0 : Int) (x1 : Int) (M : AMem) : enterF L ⟨134, [.tmp 4], .seq (.ops o10_1) (.seq (.ops o10_3) (.seq (.ops o10_5) (.seq (.seq (.ops o10_8) (.cond (.tmp 41) (.seq (.ops o10_11) (.ret)) (.skip))) (.seq (.ops o10_15) (.seq (.seq (.ops o10_18) (.block 0 (.clear [0, 1, 2, 3, 4, 11, 12, 13, 14, 15, 16, 17, 18, 19, 20, 21, 22, 23, 24, 25, 26, 27, 28, 29, 30, 31, 32, 33, 34, 35, 36, 37, 38, 39, 40, 41, 42, 43, 44, 45, 46, 47, 48, 49, 50, 51, 52, 53, 54, 55, 56, 57, 58, 59, 60, 61, 62, 63, 64, 65, 66, 67, 68, 69, 70, 71, 72, 73, 74, 75, 76, 77, 78, 79, 80, 81, 82, 83, 84, 85, 86, 87, 88, 89, 90, 91, 92, 93, 94, 95, 96, 97, 98, 99, 100, 101, 102, 103, 104, 105, 106, 107, 108, 109, 110, 111, 112, 113, 114, 115, 116, 117, 118, 119, 120, 121, 122, 123, 124, 125, 126, 127, 128, 129, 130, 131, 132, 133] (.loop b10_20)))) (.clear [0, 1, 2, 3, 4, 5, 6, 7, 8, 10, 11, 12, 13, 14, 15, 16, 17, 18, 19, 20, 21, 22, 23, 24, 25, 26, 27, 28, 29, 30, 31, 32, 33, 34, 35, 36, 37, 38, 39, 40, 41, 42, 43, 44, 45, 46, 47, 48, 49, 50, 51, 52, 53, 54, 55, 56, 57, 58, 59, 60, 61, 62, 63, 64, 65, 66, 67, 68, 69, 70, 71, 72, 73, 74, 75, 76, 77, 78, 79, 80, 81, 82, 83, 84, 85, 86, 87, 88, 89, 90, 91, 92, 93, 94, 95, 96, 97, 98, 99, 100, 101, 102, 103, 104, 105, 106, 107, 108, 109, 110, 111, 112, 113, 114, 115, 116, 117, 118, 119, 120, 121, 122, 123, 124, 125, 126, 127, 128, 129, 130, 131, 132, 133] c10_41))))))⟩ [.int .u8 x0, .int .u8 x1] M =
  (Option.bind (L.call 44 [.int .i64 (IntKind.wrap .i64 (1 + (Int.tmod (IntKind.wrap .i64 x0) 16))), .int .i64 (IntKind.wrap .i64 (1 + (Int.tmod (IntKind.wrap .i64 x1) 16)))] M) fun r_1 =>
    (Option.bind (sliceOf? (some r_1.1)) fun s_2 =>
    (Option.bind (L.call 46 [.int .i64 (IntKind.wrap .i64 (1 + (Int.tmod (IntKind.wrap .i64 x0) 16))), .int .i64 (IntKind.wrap .i64 (1 + (Int.tmod (IntKind.wrap .i64 x1) 16)))] r_1.2) fun r_3 =>
    (Option.bind (sliceOf? (some r_3.1)) fun s_4 =>
    (if ((Int.ofNat s_2.2.1) != (IntKind.wrap .i64 ((IntKind.wrap .i64 (1 + (Int.tmod (IntKind.wrap .i64 x0) 16))) * (IntKind.wrap .i64 (1 + (Int.tmod (IntKind.wrap .i64 x1) 16)))))) = true
    then some (.bool false, r_3.2)
    else (if ((Int.ofNat s_4.2.1) != (IntKind.wrap .i64 ((IntKind.wrap .i64 (1 + (Int.tmod (IntKind.wrap .i64 x0) 16))) * (IntKind.wrap .i64 (1 + (Int.tmod (IntKind.wrap .i64 x1) 16)))))) = true
      then some (.bool false, r_3.2)
      else (if 0 ≤ (IntKind.wrap .i64 ((IntKind.wrap .i64 (1 + (Int.tmod (IntKind.wrap .i64 x0) 16))) * (IntKind.wrap .i64 (1 + (Int.tmod (IntKind.wrap .i64 x1) 16))))) ∧ (IntKind.wrap .i64 ((IntKind.wrap .i64 (1 + (Int.tmod (IntKind.wrap .i64 x0) 16))) * (IntKind.wrap .i64 (1 + (Int.tmod (IntKind.wrap .i64 x1) 16))))) ≤ (IntKind.wrap .i64 ((IntKind.wrap .i64 (1 + (Int.tmod (IntKind.wrap .i64 x0) 16))) * (IntKind.wrap .i64 (1 + (Int.tmod (IntKind.wrap .i64 x1) 16))))) ∧ (IntKind.wrap .i64 ((IntKind.wrap .i64 (1 + (Int.tmod (IntKind.wrap .i64 x0) 16))) * (IntKind.wrap .i64 (1 + (Int.tmod (IntKind.wrap .i64 x1) 16))))) ≤ 140737488355328 ∧ (IntKind.wrap .i64 ((IntKind.wrap .i64 (1 + (Int.tmod (IntKind.wrap .i64 x0) 16))) * (IntKind.wrap .i64 (1 + (Int.tmod (IntKind.wrap .i64 x1) 16))))) * 8 ≤ 140737488355328
        then L.loop b10_20 (blockK 0 (seqK (code L (.clear [0, 1, 2, 3, 4, 5, 6, 7, 8, 10, 11, 12, 13, 14, 15, 16, 17, 18, 19, 20, 21, 22, 23, 24, 25, 26, 27, 28, 29, 30, 31, 32, 33, 34, 35, 36, 37, 38, 39, 40, 41, 42, 43, 44, 45, 46, 47, 48, 49, 50, 51, 52, 53, 54, 55, 56, 57, 58, 59, 60, 61, 62, 63, 64, 65, 66, 67, 68, 69, 70, 71, 72, 73, 74, 75, 76, 77, 78, 79, 80, 81, 82, 83, 84, 85, 86, 87, 88, 89, 90, 91, 92, 93, 94, 95, 96, 97, 98, 99, 100, 101, 102, 103, 104, 105, 106, 107, 108, 109, 110, 111, 112, 113, 114, 115, 116, 117, 118, 119, 120, 121, 122, 123, 124, 125, 126, 127, 128, 129, 130, 131, 132, 133] c10_41) (retK [.tmp 4])) (retK [.tmp 4]))) [junk, junk, junk, junk, junk, .int .i64 (IntKind.wrap .i64 (1 + (Int.tmod (IntKind.wrap .i64 x0) 16))), .int .i64 (IntKind.wrap .i64 (1 + (Int.tmod (IntKind.wrap .i64 x1) 16))), .slice s_2.1 s_2.2.1 s_2.2.2, .slice s_4.1 s_4.2.1 s_4.2.2, .slice (some ⟨(List.length r_3.2), 0, none⟩) (Int.toNat (IntKind.wrap .i64 ((IntKind.wrap .i64 (1 + (Int.tmod (IntKind.wrap .i64 x0) 16))) * (IntKind.wrap .i64 (1 + (Int.tmod (IntKind.wrap .i64 x1) 16)))))) 1, .int .i64 0, junk, junk, junk, junk, junk, junk, junk, junk, junk, junk, junk, junk, junk, junk, junk, junk, junk, junk, junk, junk, junk, junk, junk, junk, junk, junk, junk, junk, junk, junk, junk, junk, junk, junk, junk, junk, junk, junk, junk, junk, junk, junk, junk, junk, junk, junk, junk, junk, junk, junk, junk, junk, junk, junk, junk, junk, junk, junk, junk, junk, junk, junk, junk, junk, junk, junk, junk, junk, junk, junk, junk, junk, junk, junk, junk, junk, junk, junk, junk, junk, junk, junk, junk, junk, junk, junk, junk, junk, junk, junk, junk, junk, junk, junk, junk, junk, junk, junk, junk, junk, junk, junk, junk, junk, junk, junk, junk, junk, junk, junk, junk, junk, junk, junk, junk, junk, junk, junk, junk, junk, junk, junk, junk] (r_3.2 ++ [AObj.cells (List.replicate (Int.toNat (IntKind.wrap .i64 ((IntKind.wrap .i64 (1 + (Int.tmod (IntKind.wrap .i64 x0) 16))) * (IntKind.wrap .i64 (1 + (Int.tmod (IntKind.wrap .i64 x1) 16)))))) (.int .i64 0)) ⟨false, 0⟩])
        else none))))))) := by kernel_rfl
theorem QE10 (L : Rec) (P10_20 : Rec → Int → Int → (Option Addr) → Nat → Nat → (Option Addr) → Nat → Nat → Nat → Nat → Int → AMem → Res) (hP10_20 : P10_20 = fun (L : Rec) (x5 : Int) (x6 : Int) (x7 : Option Addr) (x7n : Nat) (x7c : Nat) (x8 : Option Addr) (x8n : Nat) (x8c : Nat) (x9 : Nat) (x9n : Nat) (x10 : Int) (M : AMem) => L.loop b10_20 (k10_20 L) (s10_20 x5 x6 x7 x7n x7c x8 x8n x8c x9 x9n x10 M) M) (x0 : Int) (x1 : Int) (M : AMem) : enterF L a10 [.int .u8 x0, .int .u8 x1] M =
  (Option.bind (L.call 44 [.int .i64 (IntKind.wrap .i64 (1 + (Int.tmod (IntKind.wrap .i64 x0) 16))), .int .i64 (IntKind.wrap .i64 (1 + (Int.tmod (IntKind.wrap .i64 x1) 16)))] M) fun r_1 =>
    (Option.bind (sliceOf? (some r_1.1)) fun s_2 =>
    (Option.bind (L.call 46 [.int .i64 (IntKind.wrap .i64 (1 + (Int.tmod (IntKind.wrap .i64 x0) 16))), .int .i64 (IntKind.wrap .i64 (1 + (Int.tmod (IntKind.wrap .i64 x1) 16)))] r_1.2) fun r_3 =>
    (Option.bind (sliceOf? (some r_3.1)) fun s_4 =>
    (if ((Int.ofNat s_2.2.1) != (IntKind.wrap .i64 ((IntKind.wrap .i64 (1 + (Int.tmod (IntKind.wrap .i64 x0) 16))) * (IntKind.wrap .i64 (1 + (Int.tmod (IntKind.wrap .i64 x1) 16)))))) = true
    then some (.bool false, r_3.2)
    else (if ((Int.ofNat s_4.2.1) != (IntKind.wrap .i64 ((IntKind.wrap .i64 (1 + (Int.tmod (IntKind.wrap .i64 x0) 16))) * (IntKind.wrap .i64 (1 + (Int.tmod (IntKind.wrap .i64 x1) 16)))))) = true
      then some (.bool false, r_3.2)
      else (if 0 ≤ (IntKind.wrap .i64 ((IntKind.wrap .i64 (1 + (Int.tmod (IntKind.wrap .i64 x0) 16))) * (IntKind.wrap .i64 (1 + (Int.tmod (IntKind.wrap .i64 x1) 16))))) ∧ (IntKind.wrap .i64 ((IntKind.wrap .i64 (1 + (Int.tmod (IntKind.wrap .i64 x0) 16))) * (IntKind.wrap .i64 (1 + (Int.tmod (IntKind.wrap .i64 x1) 16))))) ≤ (IntKind.wrap .i64 ((IntKind.wrap .i64 (1 + (Int.tmod (IntKind.wrap .i64 x0) 16))) * (IntKind.wrap .i64 (1 + (Int.tmod (IntKind.wrap .i64 x1) 16))))) ∧ (IntKind.wrap .i64 ((IntKind.wrap .i64 (1 + (Int.tmod (IntKind.wrap .i64 x0) 16))) * (IntKind.wrap .i64 (1 + (Int.tmod (IntKind.wrap .i64 x1) 16))))) ≤ 140737488355328 ∧ (IntKind.wrap .i64 ((IntKind.wrap .i64 (1 + (Int.tmod (IntKind.wrap .i64 x0) 16))) * (IntKind.wrap .i64 (1 + (Int.tmod (IntKind.wrap .i64 x1) 16))))) * 8 ≤ 140737488355328
        then P10_20 L (IntKind.wrap .i64 (1 + (Int.tmod (IntKind.wrap .i64 x0) 16))) (IntKind.wrap .i64 (1 + (Int.tmod (IntKind.wrap .i64 x1) 16))) s_2.1 s_2.2.1 s_2.2.2 s_4.1 s_4.2.1 s_4.2.2 (List.length r_3.2) (Int.toNat (IntKind.wrap .i64 ((IntKind.wrap .i64 (1 + (Int.tmod (IntKind.wrap .i64 x0) 16))) * (IntKind.wrap .i64 (1 + (Int.tmod (IntKind.wrap .i64 x1) 16)))))) 0 (r_3.2 ++ [AObj.cells (List.replicate (Int.toNat (IntKind.wrap .i64 ((IntKind.wrap .i64 (1 + (Int.tmod (IntKind.wrap .i64 x0) 16))) * (IntKind.wrap .i64 (1 + (Int.tmod (IntKind.wrap .i64 x1) 16)))))) (.int .i64 0)) ⟨false, 0⟩])
        else none))))))) := by
  subst hP10_20; exact Eq.mp (by kernel_rfl) (GE10 L b10_20 c10_41 x0 x1 M)
theorem E10 (L : Rec) (x0 : Int) (x1 : Int) (M : AMem) : enterF L a10 [.int .u8 x0, .int .u8 x1] M =
  (Option.bind (L.call 44 [.int .i64 (IntKind.wrap .i64 (1 + (Int.tmod (IntKind.wrap .i64 x0) 16))), .int .i64 (IntKind.wrap .i64 (1 + (Int.tmod (IntKind.wrap .i64 x1) 16)))] M) fun r_1 =>
    (Option.bind (sliceOf? (some r_1.1)) fun s_2 =>
    (Option.bind (L.call 46 [.int .i64 (IntKind.wrap .i64 (1 + (Int.tmod (IntKind.wrap .i64 x0) 16))), .int .i64 (IntKind.wrap .i64 (1 + (Int.tmod (IntKind.wrap .i64 x1) 16)))] r_1.2) fun r_3 =>
    (Option.bind (sliceOf? (some r_3.1)) fun s_4 =>
    (if ((Int.ofNat s_2.2.1) != (IntKind.wrap .i64 ((IntKind.wrap .i64 (1 + (Int.tmod (IntKind.wrap .i64 x0) 16))) * (IntKind.wrap .i64 (1 + (Int.tmod (IntKind.wrap .i64 x1) 16)))))) = true
    then some (.bool false, r_3.2)
    else (if ((Int.ofNat s_4.2.1) != (IntKind.wrap .i64 ((IntKind.wrap .i64 (1 + (Int.tmod (IntKind.wrap .i64 x0) 16))) * (IntKind.wrap .i64 (1 + (Int.tmod (IntKind.wrap .i64 x1) 16)))))) = true
      then some (.bool false, r_3.2)
      else (if 0 ≤ (IntKind.wrap .i64 ((IntKind.wrap .i64 (1 + (Int.tmod (IntKind.wrap .i64 x0) 16))) * (IntKind.wrap .i64 (1 + (Int.tmod (IntKind.wrap .i64 x1) 16))))) ∧ (IntKind.wrap .i64 ((IntKind.wrap .i64 (1 + (Int.tmod (IntKind.wrap .i64 x0) 16))) * (IntKind.wrap .i64 (1 + (Int.tmod (IntKind.wrap .i64 x1) 16))))) ≤ (IntKind.wrap .i64 ((IntKind.wrap .i64 (1 + (Int.tmod (IntKind.wrap .i64 x0) 16))) * (IntKind.wrap .i64 (1 + (Int.tmod (IntKind.wrap .i64 x1) 16))))) ∧ (IntKind.wrap .i64 ((IntKind.wrap .i64 (1 + (Int.tmod (IntKind.wrap .i64 x0) 16))) * (IntKind.wrap .i64 (1 + (Int.tmod (IntKind.wrap .i64 x1) 16))))) ≤ 140737488355328 ∧ (IntKind.wrap .i64 ((IntKind.wrap .i64 (1 + (Int.tmod (IntKind.wrap .i64 x0) 16))) * (IntKind.wrap .i64 (1 + (Int.tmod (IntKind.wrap .i64 x1) 16))))) * 8 ≤ 140737488355328
        then P10_20 L (IntKind.wrap .i64 (1 + (Int.tmod (IntKind.wrap .i64 x0) 16))) (IntKind.wrap .i64 (1 + (Int.tmod (IntKind.wrap .i64 x1) 16))) s_2.1 s_2.2.1 s_2.2.2 s_4.1 s_4.2.1 s_4.2.2 (List.length r_3.2) (Int.toNat (IntKind.wrap .i64 ((IntKind.wrap .i64 (1 + (Int.tmod (IntKind.wrap .i64 x0) 16))) * (IntKind.wrap .i64 (1 + (Int.tmod (IntKind.wrap .i64 x1) 16)))))) 0 (r_3.2 ++ [AObj.cells (List.replicate (Int.toNat (IntKind.wrap .i64 ((IntKind.wrap .i64 (1 + (Int.tmod (IntKind.wrap .i64 x0) 16))) * (IntKind.wrap .i64 (1 + (Int.tmod (IntKind.wrap .i64 x1) 16)))))) (.int .i64 0)) ⟨false, 0⟩])
        else none))))))) := QE10 L P10_20 (Classical.choose_spec XP10_20) x0 x1 M
end Go.Proofs.Ytaepdefnomcllaa
