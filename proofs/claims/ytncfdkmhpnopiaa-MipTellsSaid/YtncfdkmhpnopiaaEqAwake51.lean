/- What the pieces of some functions come to. -/
import Derived.Test.YtncfdkmhpnopiaaCode
set_option linter.unusedVariables false
set_option maxRecDepth 100000
namespace Go.Proofs.Ytncfdkmhpnopiaa
open Go Go.Ax
/-! #### skylightlaw51.awake -/
theorem E7 (L : Rec) : enterF L a7 [] [] =
  (Option.bind (L.call 8 [.agg #[.int .i64 2, .int .i64 1, .slice (some ⟨0, 0, none⟩) 2 3]] ([AObj.cells [.int .i64 10, .int .i64 0, .int .i64 0, .int .i64 20, .int .i64 0, .int .i64 0] ⟨false, 0⟩, AObj.cells [.int .i64 2, .int .i64 1, .slice (some ⟨0, 0, none⟩) 2 3] ⟨false, 1⟩] : AMem)) fun r_1 =>
    (Option.bind (aggOf? 3 r_1.1) fun cs_2 =>
    (Option.bind (intOf? .i64 (cs_2[0]?)) fun x_3 =>
    (Option.bind (intOf? .i64 (cs_2[1]?)) fun x_4 =>
    (Option.bind (sliceOf? (cs_2[2]?)) fun s_5 =>
    (Option.bind (AMem.wr (r_1.2 ++ [AObj.cells [.int .i64 0, .int .i64 0, .slice none 0 0] ⟨false, 0⟩]) (List.length r_1.2) 0 [.int .i64 x_3, .int .i64 x_4, .slice s_5.1 s_5.2.1 s_5.2.2]) fun M_6 =>
    (Option.bind (sliceOf? (AMem.ld M_6 (List.length r_1.2) 2)) fun s_7 =>
    (if ((Int.ofNat s_7.2.1) == 1) = true
    then (Option.bind (sliceOf? (AMem.ld M_6 (List.length r_1.2) 2)) fun s_8 =>
      (match s_8.1 with
      | some a_9 => (if (0 : Int) ≤ 0 ∧ 0 < (Int.ofNat s_8.2.1)
        then (Option.bind (intOf? .i64 (AMem.ld M_6 a_9.block a_9.off)) fun x_10 =>
          (Option.bind (intOf? .i64 (AMem.ld M_6 a_9.block (a_9.off + 1))) fun x_11 =>
          (Option.bind (intOf? .i64 (AMem.ld M_6 a_9.block (a_9.off + 2))) fun x_12 =>
          (if ((x_10 == 15) && ((x_11 == 0) && (x_12 == 0))) = true
          then (Option.bind (L.call 15 [.int .i64 5, .int .i64 3] []) fun r_13 =>
            (Option.bind (intOf? .i64 (some r_13.1)) fun x_14 =>
            (if (x_14 == 4) = true
            then (Option.bind (intOf? .i64 (AMem.ld M_6 1 0)) fun x_15 =>
              (Option.bind (intOf? .i64 (AMem.ld M_6 1 1)) fun x_16 =>
              (Option.bind (sliceOf? (AMem.ld M_6 1 2)) fun s_17 =>
              (Option.bind (L.call 14 [.agg #[.int .i64 x_15, .int .i64 x_16, .slice s_17.1 s_17.2.1 s_17.2.2]] M_6) fun r_18 =>
              (Option.bind (sliceOf? (some r_18.1)) fun s_19 =>
              (if ((Int.ofNat s_19.2.1) == 2) = true
              then (Option.bind (L.call 15 [.int .i64 0, .int .i64 1] []) fun r_20 =>
                (Option.bind (intOf? .i64 (some r_20.1)) fun x_21 =>
                (if (x_21 == 0) = true
                then (Option.bind (L.call 8 [.agg #[.int .i64 0, .int .i64 0, .slice none 0 0]] r_18.2) fun r_22 =>
                  (Option.bind (aggOf? 3 r_22.1) fun cs_23 =>
                  (Option.bind (intOf? .i64 (cs_23[0]?)) fun x_24 =>
                  (Option.bind (intOf? .i64 (cs_23[1]?)) fun x_25 =>
                  (Option.bind (sliceOf? (cs_23[2]?)) fun s_26 =>
                  some (.bool ((Int.ofNat s_26.2.1) == 0), r_22.2))))))
                else some (.bool false, r_18.2))))
              else some (.bool false, r_18.2)))))))
            else some (.bool false, M_6))))
          else some (.bool false, M_6)))))
        else none)
      | none => none))
    else some (.bool false, M_6))))))))) := by kernel_rfl
end Go.Proofs.Ytncfdkmhpnopiaa
