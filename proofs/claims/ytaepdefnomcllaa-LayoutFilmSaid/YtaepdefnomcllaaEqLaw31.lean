/- What the pieces of some functions come to. -/
import Derived.Test.YtaepdefnomcllaaCode
set_option linter.unusedVariables false
set_option maxRecDepth 100000
namespace Go.Proofs.Ytaepdefnomcllaa
open Go Go.Ax
/-! #### skylightlaw31.of -/
theorem GE11 (L : Rec) (x0_0 : Int) (x0_1 : Int) : enterF L ⟨8, [.cell true [.int .i64, .int .i64] 2], .seq (.ops o11_1) (.seq (.ops o11_3) (.ret))⟩ [.agg #[.int .i64 x0_0, .int .i64 x0_1]] [] =
  some (.agg #[.int .i64 x0_0, .int .i64 x0_1], ([AObj.cells [.int .i64 x0_0, .int .i64 x0_1] ⟨false, 0⟩, AObj.cells [.int .i64 x0_0, .int .i64 x0_1] ⟨false, 1⟩] : AMem)) := by kernel_rfl
theorem E11 (L : Rec) (x0_0 : Int) (x0_1 : Int) : enterF L a11 [.agg #[.int .i64 x0_0, .int .i64 x0_1]] [] =
  some (.agg #[.int .i64 x0_0, .int .i64 x0_1], ([AObj.cells [.int .i64 x0_0, .int .i64 x0_1] ⟨false, 0⟩, AObj.cells [.int .i64 x0_0, .int .i64 x0_1] ⟨false, 1⟩] : AMem)) := Eq.mp (by kernel_rfl) (GE11 L  x0_0 x0_1)
/-! #### skylightlaw31.awake -/
theorem GE13 (L : Rec) : enterF L ⟨32, [.tmp 0], .seq (.ops o13_1) (.seq (.ops o13_3) (.seq (.ops o13_5) (.ret)))⟩ [] [] =
  (Option.bind (L.call 16 [.agg #[.int .i64 4, .int .i64 2]] []) fun r_1 =>
    (Option.bind (intOf? .i64 (some r_1.1)) fun x_2 =>
    (if (x_2 == 17) = true
    then (Option.bind (L.call 20 [.agg #[.int .i64 4, .int .i64 2], .int .i64 1, .int .i64 2] []) fun r_3 =>
      (Option.bind (intOf? .i64 (some r_3.1)) fun x_4 =>
      (if (x_4 == 10) = true
      then (Option.bind (L.call 17 [.agg #[.int .i64 4, .int .i64 2], .int .i64 1] []) fun r_5 =>
        (Option.bind (intOf? .i64 (some r_5.1)) fun x_6 =>
        (if (x_6 == 2) = true
        then (Option.bind (L.call 19 [.agg #[.int .i64 4, .int .i64 2], .int .i64 2] []) fun r_7 =>
          (Option.bind (intOf? .i64 (some r_7.1)) fun x_8 =>
          (if (x_8 == (-1)) = true
          then (Option.bind (L.call 21 [.agg #[.int .i64 4, .int .i64 2], .int .i64 3] []) fun r_9 =>
            (Option.bind (intOf? .i64 (some r_9.1)) fun x_10 =>
            (if (x_10 == 1) = true
            then (Option.bind (L.call 22 [.agg #[.int .i64 4, .int .i64 2], .int .i64 4] []) fun r_11 =>
              (Option.bind (aggOf? 3 r_11.1) fun cs_12 =>
              (Option.bind (intOf? .i64 (cs_12[0]?)) fun x_13 =>
              (Option.bind (intOf? .i64 (cs_12[1]?)) fun x_14 =>
              (Option.bind (intOf? .i64 (cs_12[2]?)) fun x_15 =>
              some (.bool ((x_13 == 3) && ((x_14 == 1) && (x_15 == 0))), ([AObj.cells [.int .i64 4, .int .i64 2] ⟨false, 1⟩] : AMem)))))))
            else some (.bool false, ([AObj.cells [.int .i64 4, .int .i64 2] ⟨false, 1⟩] : AMem)))))
          else some (.bool false, ([AObj.cells [.int .i64 4, .int .i64 2] ⟨false, 1⟩] : AMem)))))
        else some (.bool false, ([AObj.cells [.int .i64 4, .int .i64 2] ⟨false, 1⟩] : AMem)))))
      else some (.bool false, ([AObj.cells [.int .i64 4, .int .i64 2] ⟨false, 1⟩] : AMem)))))
    else some (.bool false, ([AObj.cells [.int .i64 4, .int .i64 2] ⟨false, 1⟩] : AMem))))) := by kernel_rfl
theorem E13 (L : Rec) : enterF L a13 [] [] =
  (Option.bind (L.call 16 [.agg #[.int .i64 4, .int .i64 2]] []) fun r_1 =>
    (Option.bind (intOf? .i64 (some r_1.1)) fun x_2 =>
    (if (x_2 == 17) = true
    then (Option.bind (L.call 20 [.agg #[.int .i64 4, .int .i64 2], .int .i64 1, .int .i64 2] []) fun r_3 =>
      (Option.bind (intOf? .i64 (some r_3.1)) fun x_4 =>
      (if (x_4 == 10) = true
      then (Option.bind (L.call 17 [.agg #[.int .i64 4, .int .i64 2], .int .i64 1] []) fun r_5 =>
        (Option.bind (intOf? .i64 (some r_5.1)) fun x_6 =>
        (if (x_6 == 2) = true
        then (Option.bind (L.call 19 [.agg #[.int .i64 4, .int .i64 2], .int .i64 2] []) fun r_7 =>
          (Option.bind (intOf? .i64 (some r_7.1)) fun x_8 =>
          (if (x_8 == (-1)) = true
          then (Option.bind (L.call 21 [.agg #[.int .i64 4, .int .i64 2], .int .i64 3] []) fun r_9 =>
            (Option.bind (intOf? .i64 (some r_9.1)) fun x_10 =>
            (if (x_10 == 1) = true
            then (Option.bind (L.call 22 [.agg #[.int .i64 4, .int .i64 2], .int .i64 4] []) fun r_11 =>
              (Option.bind (aggOf? 3 r_11.1) fun cs_12 =>
              (Option.bind (intOf? .i64 (cs_12[0]?)) fun x_13 =>
              (Option.bind (intOf? .i64 (cs_12[1]?)) fun x_14 =>
              (Option.bind (intOf? .i64 (cs_12[2]?)) fun x_15 =>
              some (.bool ((x_13 == 3) && ((x_14 == 1) && (x_15 == 0))), ([AObj.cells [.int .i64 4, .int .i64 2] ⟨false, 1⟩] : AMem)))))))
            else some (.bool false, ([AObj.cells [.int .i64 4, .int .i64 2] ⟨false, 1⟩] : AMem)))))
          else some (.bool false, ([AObj.cells [.int .i64 4, .int .i64 2] ⟨false, 1⟩] : AMem)))))
        else some (.bool false, ([AObj.cells [.int .i64 4, .int .i64 2] ⟨false, 1⟩] : AMem)))))
      else some (.bool false, ([AObj.cells [.int .i64 4, .int .i64 2] ⟨false, 1⟩] : AMem)))))
    else some (.bool false, ([AObj.cells [.int .i64 4, .int .i64 2] ⟨false, 1⟩] : AMem))))) := Eq.mp (by kernel_rfl) (GE13 L  )
/-! #### skylightref31.All -/
noncomputable def k14_16 (L : Rec) : KT := blockK 0 (seqK (code L (.clear [0, 2, 4, 5, 6, 7, 8, 9, 10, 11, 12, 13, 14, 15, 16, 17, 18, 19, 20, 21, 22, 23, 24, 25, 26, 27, 28, 29, 30, 31, 32, 33, 34, 35, 36, 37, 38, 39, 40, 41, 42, 43, 44, 45, 46, 47, 48, 49] c14_27) (retK [.tmp 2])) (retK [.tmp 2]))
def s14_16 (x1 : Nat) (x3 : Option Addr) (x3n : Nat) (x3c : Nat) (x4 : Int) (M : AMem) : List Value := [junk, .pointer (some ⟨x1, 0, none⟩), junk, .slice x3 x3n x3c, .int .i64 x4, junk, junk, junk, junk, junk, junk, junk, junk, junk, junk, junk, junk, junk, junk, junk, junk, junk, junk, junk, junk, junk, junk, junk, junk, junk, junk, junk, junk, junk, junk, junk, junk, junk, junk, junk, junk, junk, junk, junk, junk, junk, junk, junk, junk, junk]
theorem XP14_16 : ∃ P : Rec → Nat → (Option Addr) → Nat → Nat → Int → AMem → Res, P = fun (L : Rec) (x1 : Nat) (x3 : Option Addr) (x3n : Nat) (x3c : Nat) (x4 : Int) (M : AMem) => L.loop b14_16 (k14_16 L) (s14_16 x1 x3 x3n x3c x4 M) M := ⟨_, rfl⟩
noncomputable def P14_16 : Rec → Nat → (Option Addr) → Nat → Nat → Int → AMem → Res := Classical.choose XP14_16
noncomputable def k14_26 (L : Rec) : KT := postK [0, 2, 5, 6, 7, 8, 9, 10, 11, 12, 13, 14, 15, 16, 17, 18, 19, 20, 21, 22, 23, 24, 25, 26, 27, 28, 29, 30, 31, 32, 33, 34, 35, 36, 37, 38, 39, 40, 41, 42, 43, 44, 45, 46, 47, 48, 49] (loopK L b14_16 (blockK 0 (seqK (code L (.clear [0, 2, 4, 5, 6, 7, 8, 9, 10, 11, 12, 13, 14, 15, 16, 17, 18, 19, 20, 21, 22, 23, 24, 25, 26, 27, 28, 29, 30, 31, 32, 33, 34, 35, 36, 37, 38, 39, 40, 41, 42, 43, 44, 45, 46, 47, 48, 49] c14_27) (retK [.tmp 2])) (retK [.tmp 2]))))
def s14_26 (x1 : Nat) (x3 : Option Addr) (x3n : Nat) (x3c : Nat) (x4 : Int) (M : AMem) : List Value := [junk, .pointer (some ⟨x1, 0, none⟩), junk, .slice x3 x3n x3c, .int .i64 x4, junk, junk, junk, junk, junk, junk, junk, junk, junk, junk, junk, junk, junk, junk, junk, junk, junk, junk, junk, junk, junk, junk, junk, junk, junk, junk, junk, junk, junk, junk, junk, junk, junk, junk, junk, junk, junk, junk, junk, junk, junk, junk, junk, junk, junk]
theorem XP14_26 : ∃ P : Rec → Nat → (Option Addr) → Nat → Nat → Int → AMem → Res, P = fun (L : Rec) (x1 : Nat) (x3 : Option Addr) (x3n : Nat) (x3c : Nat) (x4 : Int) (M : AMem) => code L c14_26 (k14_26 L) (s14_26 x1 x3 x3n x3c x4 M) M := ⟨_, rfl⟩
noncomputable def P14_26 : Rec → Nat → (Option Addr) → Nat → Nat → Int → AMem → Res := Classical.choose XP14_26
noncomputable def k14_27 (L : Rec) : KT := retK [.tmp 2]
def s14_27 (x1 : Nat) (x3 : Option Addr) (x3n : Nat) (x3c : Nat) (M : AMem) : List Value := [junk, .pointer (some ⟨x1, 0, none⟩), junk, .slice x3 x3n x3c, junk, junk, junk, junk, junk, junk, junk, junk, junk, junk, junk, junk, junk, junk, junk, junk, junk, junk, junk, junk, junk, junk, junk, junk, junk, junk, junk, junk, junk, junk, junk, junk, junk, junk, junk, junk, junk, junk, junk, junk, junk, junk, junk, junk, junk, junk]
theorem XP14_27 : ∃ P : Rec → Nat → (Option Addr) → Nat → Nat → AMem → Res, P = fun (L : Rec) (x1 : Nat) (x3 : Option Addr) (x3n : Nat) (x3c : Nat) (M : AMem) => code L c14_27 (k14_27 L) (s14_27 x1 x3 x3n x3c M) M := ⟨_, rfl⟩
noncomputable def P14_27 : Rec → Nat → (Option Addr) → Nat → Nat → AMem → Res := Classical.choose XP14_27
noncomputable def k14_31 (L : Rec) : KT := blockK 2 (seqK (code L (.clear [0, 2, 4, 5, 6, 7, 8, 9, 10, 11, 12, 13, 14, 15, 16, 17, 18, 19, 20, 21, 22, 23, 24, 25, 26, 27, 28, 29, 30, 31, 32, 33, 34, 35, 36, 37, 38, 39, 40, 41, 42, 43, 44, 45, 46, 47, 48, 49] c14_42) (retK [.tmp 2])) (retK [.tmp 2]))
def s14_31 (x1 : Nat) (x3 : Option Addr) (x3n : Nat) (x3c : Nat) (x5 : Int) (M : AMem) : List Value := [junk, .pointer (some ⟨x1, 0, none⟩), junk, .slice x3 x3n x3c, junk, .int .i64 x5, junk, junk, junk, junk, junk, junk, junk, junk, junk, junk, junk, junk, junk, junk, junk, junk, junk, junk, junk, junk, junk, junk, junk, junk, junk, junk, junk, junk, junk, junk, junk, junk, junk, junk, junk, junk, junk, junk, junk, junk, junk, junk, junk, junk]
theorem XP14_31 : ∃ P : Rec → Nat → (Option Addr) → Nat → Nat → Int → AMem → Res, P = fun (L : Rec) (x1 : Nat) (x3 : Option Addr) (x3n : Nat) (x3c : Nat) (x5 : Int) (M : AMem) => L.loop b14_31 (k14_31 L) (s14_31 x1 x3 x3n x3c x5 M) M := ⟨_, rfl⟩
noncomputable def P14_31 : Rec → Nat → (Option Addr) → Nat → Nat → Int → AMem → Res := Classical.choose XP14_31
noncomputable def k14_41 (L : Rec) : KT := postK [0, 2, 4, 6, 7, 8, 9, 10, 11, 12, 13, 14, 15, 16, 17, 18, 19, 20, 21, 22, 23, 24, 25, 26, 27, 28, 29, 30, 31, 32, 33, 34, 35, 36, 37, 38, 39, 40, 41, 42, 43, 44, 45, 46, 47, 48, 49] (loopK L b14_31 (blockK 2 (seqK (code L (.clear [0, 2, 4, 5, 6, 7, 8, 9, 10, 11, 12, 13, 14, 15, 16, 17, 18, 19, 20, 21, 22, 23, 24, 25, 26, 27, 28, 29, 30, 31, 32, 33, 34, 35, 36, 37, 38, 39, 40, 41, 42, 43, 44, 45, 46, 47, 48, 49] c14_42) (retK [.tmp 2])) (retK [.tmp 2]))))
def s14_41 (x1 : Nat) (x3 : Option Addr) (x3n : Nat) (x3c : Nat) (x5 : Int) (M : AMem) : List Value := [junk, .pointer (some ⟨x1, 0, none⟩), junk, .slice x3 x3n x3c, junk, .int .i64 x5, junk, junk, junk, junk, junk, junk, junk, junk, junk, junk, junk, junk, junk, junk, junk, junk, junk, junk, junk, junk, junk, junk, junk, junk, junk, junk, junk, junk, junk, junk, junk, junk, junk, junk, junk, junk, junk, junk, junk, junk, junk, junk, junk, junk]
theorem XP14_41 : ∃ P : Rec → Nat → (Option Addr) → Nat → Nat → Int → AMem → Res, P = fun (L : Rec) (x1 : Nat) (x3 : Option Addr) (x3n : Nat) (x3c : Nat) (x5 : Int) (M : AMem) => code L c14_41 (k14_41 L) (s14_41 x1 x3 x3n x3c x5 M) M := ⟨_, rfl⟩
noncomputable def P14_41 : Rec → Nat → (Option Addr) → Nat → Nat → Int → AMem → Res := Classical.choose XP14_41
noncomputable def k14_42 (L : Rec) : KT := retK [.tmp 2]
def s14_42 (x1 : Nat) (x3 : Option Addr) (x3n : Nat) (x3c : Nat) (M : AMem) : List Value := [junk, .pointer (some ⟨x1, 0, none⟩), junk, .slice x3 x3n x3c, junk, junk, junk, junk, junk, junk, junk, junk, junk, junk, junk, junk, junk, junk, junk, junk, junk, junk, junk, junk, junk, junk, junk, junk, junk, junk, junk, junk, junk, junk, junk, junk, junk, junk, junk, junk, junk, junk, junk, junk, junk, junk, junk, junk, junk, junk]
theorem XP14_42 : ∃ P : Rec → Nat → (Option Addr) → Nat → Nat → AMem → Res, P = fun (L : Rec) (x1 : Nat) (x3 : Option Addr) (x3n : Nat) (x3c : Nat) (M : AMem) => code L c14_42 (k14_42 L) (s14_42 x1 x3 x3n x3c M) M := ⟨_, rfl⟩
noncomputable def P14_42 : Rec → Nat → (Option Addr) → Nat → Nat → AMem → Res := Classical.choose XP14_42
noncomputable def k14_46 (L : Rec) : KT := blockK 4 (seqK (code L (.clear [0, 1, 2, 4, 5, 6, 7, 8, 9, 10, 11, 12, 13, 14, 15, 16, 17, 18, 19, 20, 21, 22, 23, 24, 25, 26, 27, 28, 29, 30, 31, 32, 33, 34, 35, 36, 37, 38, 39, 40, 41, 42, 43, 44, 45, 46, 47, 48, 49] c14_57) (retK [.tmp 2])) (retK [.tmp 2]))
def s14_46 (x1 : Nat) (x3 : Option Addr) (x3n : Nat) (x3c : Nat) (x6 : Int) (M : AMem) : List Value := [junk, .pointer (some ⟨x1, 0, none⟩), junk, .slice x3 x3n x3c, junk, junk, .int .i64 x6, junk, junk, junk, junk, junk, junk, junk, junk, junk, junk, junk, junk, junk, junk, junk, junk, junk, junk, junk, junk, junk, junk, junk, junk, junk, junk, junk, junk, junk, junk, junk, junk, junk, junk, junk, junk, junk, junk, junk, junk, junk, junk, junk]
theorem XP14_46 : ∃ P : Rec → Nat → (Option Addr) → Nat → Nat → Int → AMem → Res, P = fun (L : Rec) (x1 : Nat) (x3 : Option Addr) (x3n : Nat) (x3c : Nat) (x6 : Int) (M : AMem) => L.loop b14_46 (k14_46 L) (s14_46 x1 x3 x3n x3c x6 M) M := ⟨_, rfl⟩
noncomputable def P14_46 : Rec → Nat → (Option Addr) → Nat → Nat → Int → AMem → Res := Classical.choose XP14_46
noncomputable def k14_56 (L : Rec) : KT := postK [0, 2, 4, 5, 7, 8, 9, 10, 11, 12, 13, 14, 15, 16, 17, 18, 19, 20, 21, 22, 23, 24, 25, 26, 27, 28, 29, 30, 31, 32, 33, 34, 35, 36, 37, 38, 39, 40, 41, 42, 43, 44, 45, 46, 47, 48, 49] (loopK L b14_46 (blockK 4 (seqK (code L (.clear [0, 1, 2, 4, 5, 6, 7, 8, 9, 10, 11, 12, 13, 14, 15, 16, 17, 18, 19, 20, 21, 22, 23, 24, 25, 26, 27, 28, 29, 30, 31, 32, 33, 34, 35, 36, 37, 38, 39, 40, 41, 42, 43, 44, 45, 46, 47, 48, 49] c14_57) (retK [.tmp 2])) (retK [.tmp 2]))))
def s14_56 (x1 : Nat) (x3 : Option Addr) (x3n : Nat) (x3c : Nat) (x6 : Int) (M : AMem) : List Value := [junk, .pointer (some ⟨x1, 0, none⟩), junk, .slice x3 x3n x3c, junk, junk, .int .i64 x6, junk, junk, junk, junk, junk, junk, junk, junk, junk, junk, junk, junk, junk, junk, junk, junk, junk, junk, junk, junk, junk, junk, junk, junk, junk, junk, junk, junk, junk, junk, junk, junk, junk, junk, junk, junk, junk, junk, junk, junk, junk, junk, junk]
theorem XP14_56 : ∃ P : Rec → Nat → (Option Addr) → Nat → Nat → Int → AMem → Res, P = fun (L : Rec) (x1 : Nat) (x3 : Option Addr) (x3n : Nat) (x3c : Nat) (x6 : Int) (M : AMem) => code L c14_56 (k14_56 L) (s14_56 x1 x3 x3n x3c x6 M) M := ⟨_, rfl⟩
noncomputable def P14_56 : Rec → Nat → (Option Addr) → Nat → Nat → Int → AMem → Res := Classical.choose XP14_56
noncomputable def k14_57 (L : Rec) : KT := retK [.tmp 2]
def s14_57 (x3 : Option Addr) (x3n : Nat) (x3c : Nat) (M : AMem) : List Value := [junk, junk, junk, .slice x3 x3n x3c, junk, junk, junk, junk, junk, junk, junk, junk, junk, junk, junk, junk, junk, junk, junk, junk, junk, junk, junk, junk, junk, junk, junk, junk, junk, junk, junk, junk, junk, junk, junk, junk, junk, junk, junk, junk, junk, junk, junk, junk, junk, junk, junk, junk, junk, junk]
theorem XP14_57 : ∃ P : Rec → (Option Addr) → Nat → Nat → AMem → Res, P = fun (L : Rec) (x3 : Option Addr) (x3n : Nat) (x3c : Nat) (M : AMem) => code L c14_57 (k14_57 L) (s14_57 x3 x3n x3c M) M := ⟨_, rfl⟩
noncomputable def P14_57 : Rec → (Option Addr) → Nat → Nat → AMem → Res := Classical.choose XP14_57
theorem G14_16 (L : Rec) (b14_16 c14_26 c14_27 : ACode) (x1 : Nat) (x3 : Option Addr) (x3n : Nat) (x3c : Nat) (x4 : Int) (M : AMem) : code L (.post (.seq (.seq (.ops o14_19) (.cond (.tmp 15) (.skip) (.exit 0))) (.seq (.block 1 (.ops o14_25)) (.clear [0, 2, 5, 6, 7, 8, 9, 10, 11, 12, 13, 14, 15, 16, 17, 18, 19, 20, 21, 22, 23, 24, 25, 26, 27, 28, 29, 30, 31, 32, 33, 34, 35, 36, 37, 38, 39, 40, 41, 42, 43, 44, 45, 46, 47, 48, 49] c14_26))) [0, 2, 5, 6, 7, 8, 9, 10, 11, 12, 13, 14, 15, 16, 17, 18, 19, 20, 21, 22, 23, 24, 25, 26, 27, 28, 29, 30, 31, 32, 33, 34, 35, 36, 37, 38, 39, 40, 41, 42, 43, 44, 45, 46, 47, 48, 49]) (loopK L b14_16 (blockK 0 (seqK (code L (.clear [0, 2, 4, 5, 6, 7, 8, 9, 10, 11, 12, 13, 14, 15, 16, 17, 18, 19, 20, 21, 22, 23, 24, 25, 26, 27, 28, 29, 30, 31, 32, 33, 34, 35, 36, 37, 38, 39, 40, 41, 42, 43, 44, 45, 46, 47, 48, 49] c14_27) (retK [.tmp 2])) (retK [.tmp 2])))) [junk, .pointer (some ⟨x1, 0, none⟩), junk, .slice x3 x3n x3c, .int .i64 x4, junk, junk, junk, junk, junk, junk, junk, junk, junk, junk, junk, junk, junk, junk, junk, junk, junk, junk, junk, junk, junk, junk, junk, junk, junk, junk, junk, junk, junk, junk, junk, junk, junk, junk, junk, junk, junk, junk, junk, junk, junk, junk, junk, junk, junk] M =
  (Option.bind (intOf? .i64 (AMem.ld M x1 1)) fun x_1 =>
    (if (decide (x4 < x_1)) = true
    then (Option.bind (rowOf (M ++ [AObj.cells [.int .i64 2, .int .i64 x4, .int .i64 0] ⟨false, 0⟩]) 3 (.slice (some ⟨(List.length M), 0, none⟩) 1 3)) fun row_2 =>
      (appendK 3 24 x3 x3n x3c 1 row_2 (M ++ [AObj.cells [.int .i64 2, .int .i64 x4, .int .i64 0] ⟨false, 0⟩]) fun p_3 n_4 c_5 M_6 =>
      code L c14_26 (postK [0, 2, 5, 6, 7, 8, 9, 10, 11, 12, 13, 14, 15, 16, 17, 18, 19, 20, 21, 22, 23, 24, 25, 26, 27, 28, 29, 30, 31, 32, 33, 34, 35, 36, 37, 38, 39, 40, 41, 42, 43, 44, 45, 46, 47, 48, 49] (loopK L b14_16 (blockK 0 (seqK (code L (.clear [0, 2, 4, 5, 6, 7, 8, 9, 10, 11, 12, 13, 14, 15, 16, 17, 18, 19, 20, 21, 22, 23, 24, 25, 26, 27, 28, 29, 30, 31, 32, 33, 34, 35, 36, 37, 38, 39, 40, 41, 42, 43, 44, 45, 46, 47, 48, 49] c14_27) (retK [.tmp 2])) (retK [.tmp 2]))))) [junk, .pointer (some ⟨x1, 0, none⟩), junk, .slice p_3 n_4 c_5, .int .i64 x4, junk, junk, junk, junk, junk, junk, junk, junk, junk, junk, junk, junk, junk, junk, junk, junk, junk, junk, junk, junk, junk, junk, junk, junk, junk, junk, junk, junk, junk, junk, junk, junk, junk, junk, junk, junk, junk, junk, junk, junk, junk, junk, junk, junk, junk] M_6))
    else code L c14_27 (retK [.tmp 2]) [junk, .pointer (some ⟨x1, 0, none⟩), junk, .slice x3 x3n x3c, junk, junk, junk, junk, junk, junk, junk, junk, junk, junk, junk, junk, junk, junk, junk, junk, junk, junk, junk, junk, junk, junk, junk, junk, junk, junk, junk, junk, junk, junk, junk, junk, junk, junk, junk, junk, junk, junk, junk, junk, junk, junk, junk, junk, junk, junk] M)) := by kernel_rfl
theorem QP14_16_eq (L : Rec) (hL : ∀ b K t A, L.loop b K t A = code L b (loopK L b K) t A) (P14_16 : Rec → Nat → (Option Addr) → Nat → Nat → Int → AMem → Res) (hP14_16 : P14_16 = fun (L : Rec) (x1 : Nat) (x3 : Option Addr) (x3n : Nat) (x3c : Nat) (x4 : Int) (M : AMem) => L.loop b14_16 (k14_16 L) (s14_16 x1 x3 x3n x3c x4 M) M) (P14_26 : Rec → Nat → (Option Addr) → Nat → Nat → Int → AMem → Res) (hP14_26 : P14_26 = fun (L : Rec) (x1 : Nat) (x3 : Option Addr) (x3n : Nat) (x3c : Nat) (x4 : Int) (M : AMem) => code L c14_26 (k14_26 L) (s14_26 x1 x3 x3n x3c x4 M) M) (P14_27 : Rec → Nat → (Option Addr) → Nat → Nat → AMem → Res) (hP14_27 : P14_27 = fun (L : Rec) (x1 : Nat) (x3 : Option Addr) (x3n : Nat) (x3c : Nat) (M : AMem) => code L c14_27 (k14_27 L) (s14_27 x1 x3 x3n x3c M) M) (x1 : Nat) (x3 : Option Addr) (x3n : Nat) (x3c : Nat) (x4 : Int) (M : AMem) : P14_16 L x1 x3 x3n x3c x4 M =
  (Option.bind (intOf? .i64 (AMem.ld M x1 1)) fun x_1 =>
    (if (decide (x4 < x_1)) = true
    then (Option.bind (rowOf (M ++ [AObj.cells [.int .i64 2, .int .i64 x4, .int .i64 0] ⟨false, 0⟩]) 3 (.slice (some ⟨(List.length M), 0, none⟩) 1 3)) fun row_2 =>
      (appendK 3 24 x3 x3n x3c 1 row_2 (M ++ [AObj.cells [.int .i64 2, .int .i64 x4, .int .i64 0] ⟨false, 0⟩]) fun p_3 n_4 c_5 M_6 =>
      P14_26 L x1 p_3 n_4 c_5 x4 M_6))
    else P14_27 L x1 x3 x3n x3c M)) := by
  subst hP14_16; subst hP14_26; subst hP14_27; exact Eq.trans (b := code L b14_16 (loopK L b14_16 (k14_16 L)) (s14_16 x1 x3 x3n x3c x4 M) M) (hL b14_16 (k14_16 L) (s14_16 x1 x3 x3n x3c x4 M) M) (Eq.mp (by kernel_rfl) (G14_16 L b14_16 c14_26 c14_27 x1 x3 x3n x3c x4 M))
theorem P14_16_eq (L : Rec) (hL : ∀ b K t A, L.loop b K t A = code L b (loopK L b K) t A) (x1 : Nat) (x3 : Option Addr) (x3n : Nat) (x3c : Nat) (x4 : Int) (M : AMem) : P14_16 L x1 x3 x3n x3c x4 M =
  (Option.bind (intOf? .i64 (AMem.ld M x1 1)) fun x_1 =>
    (if (decide (x4 < x_1)) = true
    then (Option.bind (rowOf (M ++ [AObj.cells [.int .i64 2, .int .i64 x4, .int .i64 0] ⟨false, 0⟩]) 3 (.slice (some ⟨(List.length M), 0, none⟩) 1 3)) fun row_2 =>
      (appendK 3 24 x3 x3n x3c 1 row_2 (M ++ [AObj.cells [.int .i64 2, .int .i64 x4, .int .i64 0] ⟨false, 0⟩]) fun p_3 n_4 c_5 M_6 =>
      P14_26 L x1 p_3 n_4 c_5 x4 M_6))
    else P14_27 L x1 x3 x3n x3c M)) := QP14_16_eq L hL P14_16 (Classical.choose_spec XP14_16) P14_26 (Classical.choose_spec XP14_26) P14_27 (Classical.choose_spec XP14_27) x1 x3 x3n x3c x4 M
theorem G14_26 (L : Rec) (b14_16 c14_27 : ACode) (x1 : Nat) (x3 : Option Addr) (x3n : Nat) (x3c : Nat) (x4 : Int) (M : AMem) : code L (.ops o14_26) (postK [0, 2, 5, 6, 7, 8, 9, 10, 11, 12, 13, 14, 15, 16, 17, 18, 19, 20, 21, 22, 23, 24, 25, 26, 27, 28, 29, 30, 31, 32, 33, 34, 35, 36, 37, 38, 39, 40, 41, 42, 43, 44, 45, 46, 47, 48, 49] (loopK L b14_16 (blockK 0 (seqK (code L (.clear [0, 2, 4, 5, 6, 7, 8, 9, 10, 11, 12, 13, 14, 15, 16, 17, 18, 19, 20, 21, 22, 23, 24, 25, 26, 27, 28, 29, 30, 31, 32, 33, 34, 35, 36, 37, 38, 39, 40, 41, 42, 43, 44, 45, 46, 47, 48, 49] c14_27) (retK [.tmp 2])) (retK [.tmp 2]))))) [junk, .pointer (some ⟨x1, 0, none⟩), junk, .slice x3 x3n x3c, .int .i64 x4, junk, junk, junk, junk, junk, junk, junk, junk, junk, junk, junk, junk, junk, junk, junk, junk, junk, junk, junk, junk, junk, junk, junk, junk, junk, junk, junk, junk, junk, junk, junk, junk, junk, junk, junk, junk, junk, junk, junk, junk, junk, junk, junk, junk, junk] M =
  L.loop b14_16 (blockK 0 (seqK (code L (.clear [0, 2, 4, 5, 6, 7, 8, 9, 10, 11, 12, 13, 14, 15, 16, 17, 18, 19, 20, 21, 22, 23, 24, 25, 26, 27, 28, 29, 30, 31, 32, 33, 34, 35, 36, 37, 38, 39, 40, 41, 42, 43, 44, 45, 46, 47, 48, 49] c14_27) (retK [.tmp 2])) (retK [.tmp 2]))) [junk, .pointer (some ⟨x1, 0, none⟩), junk, .slice x3 x3n x3c, .int .i64 (IntKind.wrap .i64 (x4 + 1)), junk, junk, junk, junk, junk, junk, junk, junk, junk, junk, junk, junk, junk, junk, junk, junk, junk, junk, junk, junk, junk, junk, junk, junk, junk, junk, junk, junk, junk, junk, junk, junk, junk, junk, junk, junk, junk, junk, junk, junk, junk, junk, junk, junk, junk] M := by kernel_rfl
theorem QP14_26_eq (L : Rec) (P14_16 : Rec → Nat → (Option Addr) → Nat → Nat → Int → AMem → Res) (hP14_16 : P14_16 = fun (L : Rec) (x1 : Nat) (x3 : Option Addr) (x3n : Nat) (x3c : Nat) (x4 : Int) (M : AMem) => L.loop b14_16 (k14_16 L) (s14_16 x1 x3 x3n x3c x4 M) M) (P14_26 : Rec → Nat → (Option Addr) → Nat → Nat → Int → AMem → Res) (hP14_26 : P14_26 = fun (L : Rec) (x1 : Nat) (x3 : Option Addr) (x3n : Nat) (x3c : Nat) (x4 : Int) (M : AMem) => code L c14_26 (k14_26 L) (s14_26 x1 x3 x3n x3c x4 M) M) (x1 : Nat) (x3 : Option Addr) (x3n : Nat) (x3c : Nat) (x4 : Int) (M : AMem) : P14_26 L x1 x3 x3n x3c x4 M =
  P14_16 L x1 x3 x3n x3c (IntKind.wrap .i64 (x4 + 1)) M := by
  subst hP14_16; subst hP14_26; exact Eq.mp (by kernel_rfl) (G14_26 L b14_16 c14_27 x1 x3 x3n x3c x4 M)
theorem P14_26_eq (L : Rec) (x1 : Nat) (x3 : Option Addr) (x3n : Nat) (x3c : Nat) (x4 : Int) (M : AMem) : P14_26 L x1 x3 x3n x3c x4 M =
  P14_16 L x1 x3 x3n x3c (IntKind.wrap .i64 (x4 + 1)) M := QP14_26_eq L P14_16 (Classical.choose_spec XP14_16) P14_26 (Classical.choose_spec XP14_26) x1 x3 x3n x3c x4 M
theorem G14_27 (L : Rec) (b14_31 c14_42 : ACode) (x1 : Nat) (x3 : Option Addr) (x3n : Nat) (x3c : Nat) (M : AMem) : code L (.seq (.seq (.ops o14_29) (.block 2 (.clear [0, 2, 4, 6, 7, 8, 9, 10, 11, 12, 13, 14, 15, 16, 17, 18, 19, 20, 21, 22, 23, 24, 25, 26, 27, 28, 29, 30, 31, 32, 33, 34, 35, 36, 37, 38, 39, 40, 41, 42, 43, 44, 45, 46, 47, 48, 49] (.loop b14_31)))) (.clear [0, 2, 4, 5, 6, 7, 8, 9, 10, 11, 12, 13, 14, 15, 16, 17, 18, 19, 20, 21, 22, 23, 24, 25, 26, 27, 28, 29, 30, 31, 32, 33, 34, 35, 36, 37, 38, 39, 40, 41, 42, 43, 44, 45, 46, 47, 48, 49] c14_42)) (retK [.tmp 2]) [junk, .pointer (some ⟨x1, 0, none⟩), junk, .slice x3 x3n x3c, junk, junk, junk, junk, junk, junk, junk, junk, junk, junk, junk, junk, junk, junk, junk, junk, junk, junk, junk, junk, junk, junk, junk, junk, junk, junk, junk, junk, junk, junk, junk, junk, junk, junk, junk, junk, junk, junk, junk, junk, junk, junk, junk, junk, junk, junk] M =
  L.loop b14_31 (blockK 2 (seqK (code L (.clear [0, 2, 4, 5, 6, 7, 8, 9, 10, 11, 12, 13, 14, 15, 16, 17, 18, 19, 20, 21, 22, 23, 24, 25, 26, 27, 28, 29, 30, 31, 32, 33, 34, 35, 36, 37, 38, 39, 40, 41, 42, 43, 44, 45, 46, 47, 48, 49] c14_42) (retK [.tmp 2])) (retK [.tmp 2]))) [junk, .pointer (some ⟨x1, 0, none⟩), junk, .slice x3 x3n x3c, junk, .int .i64 0, junk, junk, junk, junk, junk, junk, junk, junk, junk, junk, junk, junk, junk, junk, junk, junk, junk, junk, junk, junk, junk, junk, junk, junk, junk, junk, junk, junk, junk, junk, junk, junk, junk, junk, junk, junk, junk, junk, junk, junk, junk, junk, junk, junk] M := by kernel_rfl
theorem QP14_27_eq (L : Rec) (P14_27 : Rec → Nat → (Option Addr) → Nat → Nat → AMem → Res) (hP14_27 : P14_27 = fun (L : Rec) (x1 : Nat) (x3 : Option Addr) (x3n : Nat) (x3c : Nat) (M : AMem) => code L c14_27 (k14_27 L) (s14_27 x1 x3 x3n x3c M) M) (P14_31 : Rec → Nat → (Option Addr) → Nat → Nat → Int → AMem → Res) (hP14_31 : P14_31 = fun (L : Rec) (x1 : Nat) (x3 : Option Addr) (x3n : Nat) (x3c : Nat) (x5 : Int) (M : AMem) => L.loop b14_31 (k14_31 L) (s14_31 x1 x3 x3n x3c x5 M) M) (x1 : Nat) (x3 : Option Addr) (x3n : Nat) (x3c : Nat) (M : AMem) : P14_27 L x1 x3 x3n x3c M =
  P14_31 L x1 x3 x3n x3c 0 M := by
  subst hP14_27; subst hP14_31; exact Eq.mp (by kernel_rfl) (G14_27 L b14_31 c14_42 x1 x3 x3n x3c M)
theorem P14_27_eq (L : Rec) (x1 : Nat) (x3 : Option Addr) (x3n : Nat) (x3c : Nat) (M : AMem) : P14_27 L x1 x3 x3n x3c M =
  P14_31 L x1 x3 x3n x3c 0 M := QP14_27_eq L P14_27 (Classical.choose_spec XP14_27) P14_31 (Classical.choose_spec XP14_31) x1 x3 x3n x3c M
theorem G14_31 (L : Rec) (b14_31 c14_41 c14_42 : ACode) (x1 : Nat) (x3 : Option Addr) (x3n : Nat) (x3c : Nat) (x5 : Int) (M : AMem) : code L (.post (.seq (.seq (.ops o14_34) (.cond (.tmp 26) (.skip) (.exit 2))) (.seq (.block 3 (.ops o14_40)) (.clear [0, 2, 4, 6, 7, 8, 9, 10, 11, 12, 13, 14, 15, 16, 17, 18, 19, 20, 21, 22, 23, 24, 25, 26, 27, 28, 29, 30, 31, 32, 33, 34, 35, 36, 37, 38, 39, 40, 41, 42, 43, 44, 45, 46, 47, 48, 49] c14_41))) [0, 2, 4, 6, 7, 8, 9, 10, 11, 12, 13, 14, 15, 16, 17, 18, 19, 20, 21, 22, 23, 24, 25, 26, 27, 28, 29, 30, 31, 32, 33, 34, 35, 36, 37, 38, 39, 40, 41, 42, 43, 44, 45, 46, 47, 48, 49]) (loopK L b14_31 (blockK 2 (seqK (code L (.clear [0, 2, 4, 5, 6, 7, 8, 9, 10, 11, 12, 13, 14, 15, 16, 17, 18, 19, 20, 21, 22, 23, 24, 25, 26, 27, 28, 29, 30, 31, 32, 33, 34, 35, 36, 37, 38, 39, 40, 41, 42, 43, 44, 45, 46, 47, 48, 49] c14_42) (retK [.tmp 2])) (retK [.tmp 2])))) [junk, .pointer (some ⟨x1, 0, none⟩), junk, .slice x3 x3n x3c, junk, .int .i64 x5, junk, junk, junk, junk, junk, junk, junk, junk, junk, junk, junk, junk, junk, junk, junk, junk, junk, junk, junk, junk, junk, junk, junk, junk, junk, junk, junk, junk, junk, junk, junk, junk, junk, junk, junk, junk, junk, junk, junk, junk, junk, junk, junk, junk] M =
  (Option.bind (intOf? .i64 (AMem.ld M x1 1)) fun x_1 =>
    (if (decide (x5 < x_1)) = true
    then (Option.bind (rowOf (M ++ [AObj.cells [.int .i64 3, .int .i64 x5, .int .i64 0] ⟨false, 0⟩]) 3 (.slice (some ⟨(List.length M), 0, none⟩) 1 3)) fun row_2 =>
      (appendK 3 24 x3 x3n x3c 1 row_2 (M ++ [AObj.cells [.int .i64 3, .int .i64 x5, .int .i64 0] ⟨false, 0⟩]) fun p_3 n_4 c_5 M_6 =>
      code L c14_41 (postK [0, 2, 4, 6, 7, 8, 9, 10, 11, 12, 13, 14, 15, 16, 17, 18, 19, 20, 21, 22, 23, 24, 25, 26, 27, 28, 29, 30, 31, 32, 33, 34, 35, 36, 37, 38, 39, 40, 41, 42, 43, 44, 45, 46, 47, 48, 49] (loopK L b14_31 (blockK 2 (seqK (code L (.clear [0, 2, 4, 5, 6, 7, 8, 9, 10, 11, 12, 13, 14, 15, 16, 17, 18, 19, 20, 21, 22, 23, 24, 25, 26, 27, 28, 29, 30, 31, 32, 33, 34, 35, 36, 37, 38, 39, 40, 41, 42, 43, 44, 45, 46, 47, 48, 49] c14_42) (retK [.tmp 2])) (retK [.tmp 2]))))) [junk, .pointer (some ⟨x1, 0, none⟩), junk, .slice p_3 n_4 c_5, junk, .int .i64 x5, junk, junk, junk, junk, junk, junk, junk, junk, junk, junk, junk, junk, junk, junk, junk, junk, junk, junk, junk, junk, junk, junk, junk, junk, junk, junk, junk, junk, junk, junk, junk, junk, junk, junk, junk, junk, junk, junk, junk, junk, junk, junk, junk, junk] M_6))
    else code L c14_42 (retK [.tmp 2]) [junk, .pointer (some ⟨x1, 0, none⟩), junk, .slice x3 x3n x3c, junk, junk, junk, junk, junk, junk, junk, junk, junk, junk, junk, junk, junk, junk, junk, junk, junk, junk, junk, junk, junk, junk, junk, junk, junk, junk, junk, junk, junk, junk, junk, junk, junk, junk, junk, junk, junk, junk, junk, junk, junk, junk, junk, junk, junk, junk] M)) := by kernel_rfl
theorem QP14_31_eq (L : Rec) (hL : ∀ b K t A, L.loop b K t A = code L b (loopK L b K) t A) (P14_31 : Rec → Nat → (Option Addr) → Nat → Nat → Int → AMem → Res) (hP14_31 : P14_31 = fun (L : Rec) (x1 : Nat) (x3 : Option Addr) (x3n : Nat) (x3c : Nat) (x5 : Int) (M : AMem) => L.loop b14_31 (k14_31 L) (s14_31 x1 x3 x3n x3c x5 M) M) (P14_41 : Rec → Nat → (Option Addr) → Nat → Nat → Int → AMem → Res) (hP14_41 : P14_41 = fun (L : Rec) (x1 : Nat) (x3 : Option Addr) (x3n : Nat) (x3c : Nat) (x5 : Int) (M : AMem) => code L c14_41 (k14_41 L) (s14_41 x1 x3 x3n x3c x5 M) M) (P14_42 : Rec → Nat → (Option Addr) → Nat → Nat → AMem → Res) (hP14_42 : P14_42 = fun (L : Rec) (x1 : Nat) (x3 : Option Addr) (x3n : Nat) (x3c : Nat) (M : AMem) => code L c14_42 (k14_42 L) (s14_42 x1 x3 x3n x3c M) M) (x1 : Nat) (x3 : Option Addr) (x3n : Nat) (x3c : Nat) (x5 : Int) (M : AMem) : P14_31 L x1 x3 x3n x3c x5 M =
  (Option.bind (intOf? .i64 (AMem.ld M x1 1)) fun x_1 =>
    (if (decide (x5 < x_1)) = true
    then (Option.bind (rowOf (M ++ [AObj.cells [.int .i64 3, .int .i64 x5, .int .i64 0] ⟨false, 0⟩]) 3 (.slice (some ⟨(List.length M), 0, none⟩) 1 3)) fun row_2 =>
      (appendK 3 24 x3 x3n x3c 1 row_2 (M ++ [AObj.cells [.int .i64 3, .int .i64 x5, .int .i64 0] ⟨false, 0⟩]) fun p_3 n_4 c_5 M_6 =>
      P14_41 L x1 p_3 n_4 c_5 x5 M_6))
    else P14_42 L x1 x3 x3n x3c M)) := by
  subst hP14_31; subst hP14_41; subst hP14_42; exact Eq.trans (b := code L b14_31 (loopK L b14_31 (k14_31 L)) (s14_31 x1 x3 x3n x3c x5 M) M) (hL b14_31 (k14_31 L) (s14_31 x1 x3 x3n x3c x5 M) M) (Eq.mp (by kernel_rfl) (G14_31 L b14_31 c14_41 c14_42 x1 x3 x3n x3c x5 M))
theorem P14_31_eq (L : Rec) (hL : ∀ b K t A, L.loop b K t A = code L b (loopK L b K) t A) (x1 : Nat) (x3 : Option Addr) (x3n : Nat) (x3c : Nat) (x5 : Int) (M : AMem) : P14_31 L x1 x3 x3n x3c x5 M =
  (Option.bind (intOf? .i64 (AMem.ld M x1 1)) fun x_1 =>
    (if (decide (x5 < x_1)) = true
    then (Option.bind (rowOf (M ++ [AObj.cells [.int .i64 3, .int .i64 x5, .int .i64 0] ⟨false, 0⟩]) 3 (.slice (some ⟨(List.length M), 0, none⟩) 1 3)) fun row_2 =>
      (appendK 3 24 x3 x3n x3c 1 row_2 (M ++ [AObj.cells [.int .i64 3, .int .i64 x5, .int .i64 0] ⟨false, 0⟩]) fun p_3 n_4 c_5 M_6 =>
      P14_41 L x1 p_3 n_4 c_5 x5 M_6))
    else P14_42 L x1 x3 x3n x3c M)) := QP14_31_eq L hL P14_31 (Classical.choose_spec XP14_31) P14_41 (Classical.choose_spec XP14_41) P14_42 (Classical.choose_spec XP14_42) x1 x3 x3n x3c x5 M
theorem G14_41 (L : Rec) (b14_31 c14_42 : ACode) (x1 : Nat) (x3 : Option Addr) (x3n : Nat) (x3c : Nat) (x5 : Int) (M : AMem) : code L (.ops o14_41) (postK [0, 2, 4, 6, 7, 8, 9, 10, 11, 12, 13, 14, 15, 16, 17, 18, 19, 20, 21, 22, 23, 24, 25, 26, 27, 28, 29, 30, 31, 32, 33, 34, 35, 36, 37, 38, 39, 40, 41, 42, 43, 44, 45, 46, 47, 48, 49] (loopK L b14_31 (blockK 2 (seqK (code L (.clear [0, 2, 4, 5, 6, 7, 8, 9, 10, 11, 12, 13, 14, 15, 16, 17, 18, 19, 20, 21, 22, 23, 24, 25, 26, 27, 28, 29, 30, 31, 32, 33, 34, 35, 36, 37, 38, 39, 40, 41, 42, 43, 44, 45, 46, 47, 48, 49] c14_42) (retK [.tmp 2])) (retK [.tmp 2]))))) [junk, .pointer (some ⟨x1, 0, none⟩), junk, .slice x3 x3n x3c, junk, .int .i64 x5, junk, junk, junk, junk, junk, junk, junk, junk, junk, junk, junk, junk, junk, junk, junk, junk, junk, junk, junk, junk, junk, junk, junk, junk, junk, junk, junk, junk, junk, junk, junk, junk, junk, junk, junk, junk, junk, junk, junk, junk, junk, junk, junk, junk] M =
  L.loop b14_31 (blockK 2 (seqK (code L (.clear [0, 2, 4, 5, 6, 7, 8, 9, 10, 11, 12, 13, 14, 15, 16, 17, 18, 19, 20, 21, 22, 23, 24, 25, 26, 27, 28, 29, 30, 31, 32, 33, 34, 35, 36, 37, 38, 39, 40, 41, 42, 43, 44, 45, 46, 47, 48, 49] c14_42) (retK [.tmp 2])) (retK [.tmp 2]))) [junk, .pointer (some ⟨x1, 0, none⟩), junk, .slice x3 x3n x3c, junk, .int .i64 (IntKind.wrap .i64 (x5 + 1)), junk, junk, junk, junk, junk, junk, junk, junk, junk, junk, junk, junk, junk, junk, junk, junk, junk, junk, junk, junk, junk, junk, junk, junk, junk, junk, junk, junk, junk, junk, junk, junk, junk, junk, junk, junk, junk, junk, junk, junk, junk, junk, junk, junk] M := by kernel_rfl
theorem QP14_41_eq (L : Rec) (P14_31 : Rec → Nat → (Option Addr) → Nat → Nat → Int → AMem → Res) (hP14_31 : P14_31 = fun (L : Rec) (x1 : Nat) (x3 : Option Addr) (x3n : Nat) (x3c : Nat) (x5 : Int) (M : AMem) => L.loop b14_31 (k14_31 L) (s14_31 x1 x3 x3n x3c x5 M) M) (P14_41 : Rec → Nat → (Option Addr) → Nat → Nat → Int → AMem → Res) (hP14_41 : P14_41 = fun (L : Rec) (x1 : Nat) (x3 : Option Addr) (x3n : Nat) (x3c : Nat) (x5 : Int) (M : AMem) => code L c14_41 (k14_41 L) (s14_41 x1 x3 x3n x3c x5 M) M) (x1 : Nat) (x3 : Option Addr) (x3n : Nat) (x3c : Nat) (x5 : Int) (M : AMem) : P14_41 L x1 x3 x3n x3c x5 M =
  P14_31 L x1 x3 x3n x3c (IntKind.wrap .i64 (x5 + 1)) M := by
  subst hP14_31; subst hP14_41; exact Eq.mp (by kernel_rfl) (G14_41 L b14_31 c14_42 x1 x3 x3n x3c x5 M)
theorem P14_41_eq (L : Rec) (x1 : Nat) (x3 : Option Addr) (x3n : Nat) (x3c : Nat) (x5 : Int) (M : AMem) : P14_41 L x1 x3 x3n x3c x5 M =
  P14_31 L x1 x3 x3n x3c (IntKind.wrap .i64 (x5 + 1)) M := QP14_41_eq L P14_31 (Classical.choose_spec XP14_31) P14_41 (Classical.choose_spec XP14_41) x1 x3 x3n x3c x5 M
theorem G14_42 (L : Rec) (b14_46 c14_57 : ACode) (x1 : Nat) (x3 : Option Addr) (x3n : Nat) (x3c : Nat) (M : AMem) : code L (.seq (.seq (.ops o14_44) (.block 4 (.clear [0, 2, 4, 5, 7, 8, 9, 10, 11, 12, 13, 14, 15, 16, 17, 18, 19, 20, 21, 22, 23, 24, 25, 26, 27, 28, 29, 30, 31, 32, 33, 34, 35, 36, 37, 38, 39, 40, 41, 42, 43, 44, 45, 46, 47, 48, 49] (.loop b14_46)))) (.clear [0, 1, 2, 4, 5, 6, 7, 8, 9, 10, 11, 12, 13, 14, 15, 16, 17, 18, 19, 20, 21, 22, 23, 24, 25, 26, 27, 28, 29, 30, 31, 32, 33, 34, 35, 36, 37, 38, 39, 40, 41, 42, 43, 44, 45, 46, 47, 48, 49] c14_57)) (retK [.tmp 2]) [junk, .pointer (some ⟨x1, 0, none⟩), junk, .slice x3 x3n x3c, junk, junk, junk, junk, junk, junk, junk, junk, junk, junk, junk, junk, junk, junk, junk, junk, junk, junk, junk, junk, junk, junk, junk, junk, junk, junk, junk, junk, junk, junk, junk, junk, junk, junk, junk, junk, junk, junk, junk, junk, junk, junk, junk, junk, junk, junk] M =
  L.loop b14_46 (blockK 4 (seqK (code L (.clear [0, 1, 2, 4, 5, 6, 7, 8, 9, 10, 11, 12, 13, 14, 15, 16, 17, 18, 19, 20, 21, 22, 23, 24, 25, 26, 27, 28, 29, 30, 31, 32, 33, 34, 35, 36, 37, 38, 39, 40, 41, 42, 43, 44, 45, 46, 47, 48, 49] c14_57) (retK [.tmp 2])) (retK [.tmp 2]))) [junk, .pointer (some ⟨x1, 0, none⟩), junk, .slice x3 x3n x3c, junk, junk, .int .i64 0, junk, junk, junk, junk, junk, junk, junk, junk, junk, junk, junk, junk, junk, junk, junk, junk, junk, junk, junk, junk, junk, junk, junk, junk, junk, junk, junk, junk, junk, junk, junk, junk, junk, junk, junk, junk, junk, junk, junk, junk, junk, junk, junk] M := by kernel_rfl
theorem QP14_42_eq (L : Rec) (P14_42 : Rec → Nat → (Option Addr) → Nat → Nat → AMem → Res) (hP14_42 : P14_42 = fun (L : Rec) (x1 : Nat) (x3 : Option Addr) (x3n : Nat) (x3c : Nat) (M : AMem) => code L c14_42 (k14_42 L) (s14_42 x1 x3 x3n x3c M) M) (P14_46 : Rec → Nat → (Option Addr) → Nat → Nat → Int → AMem → Res) (hP14_46 : P14_46 = fun (L : Rec) (x1 : Nat) (x3 : Option Addr) (x3n : Nat) (x3c : Nat) (x6 : Int) (M : AMem) => L.loop b14_46 (k14_46 L) (s14_46 x1 x3 x3n x3c x6 M) M) (x1 : Nat) (x3 : Option Addr) (x3n : Nat) (x3c : Nat) (M : AMem) : P14_42 L x1 x3 x3n x3c M =
  P14_46 L x1 x3 x3n x3c 0 M := by
  subst hP14_42; subst hP14_46; exact Eq.mp (by kernel_rfl) (G14_42 L b14_46 c14_57 x1 x3 x3n x3c M)
theorem P14_42_eq (L : Rec) (x1 : Nat) (x3 : Option Addr) (x3n : Nat) (x3c : Nat) (M : AMem) : P14_42 L x1 x3 x3n x3c M =
  P14_46 L x1 x3 x3n x3c 0 M := QP14_42_eq L P14_42 (Classical.choose_spec XP14_42) P14_46 (Classical.choose_spec XP14_46) x1 x3 x3n x3c M
theorem G14_46 (L : Rec) (b14_46 c14_56 c14_57 : ACode) (x1 : Nat) (x3 : Option Addr) (x3n : Nat) (x3c : Nat) (x6 : Int) (M : AMem) : code L (.post (.seq (.seq (.ops o14_49) (.cond (.tmp 38) (.skip) (.exit 4))) (.seq (.block 5 (.ops o14_55)) (.clear [0, 2, 4, 5, 7, 8, 9, 10, 11, 12, 13, 14, 15, 16, 17, 18, 19, 20, 21, 22, 23, 24, 25, 26, 27, 28, 29, 30, 31, 32, 33, 34, 35, 36, 37, 38, 39, 40, 41, 42, 43, 44, 45, 46, 47, 48, 49] c14_56))) [0, 2, 4, 5, 7, 8, 9, 10, 11, 12, 13, 14, 15, 16, 17, 18, 19, 20, 21, 22, 23, 24, 25, 26, 27, 28, 29, 30, 31, 32, 33, 34, 35, 36, 37, 38, 39, 40, 41, 42, 43, 44, 45, 46, 47, 48, 49]) (loopK L b14_46 (blockK 4 (seqK (code L (.clear [0, 1, 2, 4, 5, 6, 7, 8, 9, 10, 11, 12, 13, 14, 15, 16, 17, 18, 19, 20, 21, 22, 23, 24, 25, 26, 27, 28, 29, 30, 31, 32, 33, 34, 35, 36, 37, 38, 39, 40, 41, 42, 43, 44, 45, 46, 47, 48, 49] c14_57) (retK [.tmp 2])) (retK [.tmp 2])))) [junk, .pointer (some ⟨x1, 0, none⟩), junk, .slice x3 x3n x3c, junk, junk, .int .i64 x6, junk, junk, junk, junk, junk, junk, junk, junk, junk, junk, junk, junk, junk, junk, junk, junk, junk, junk, junk, junk, junk, junk, junk, junk, junk, junk, junk, junk, junk, junk, junk, junk, junk, junk, junk, junk, junk, junk, junk, junk, junk, junk, junk] M =
  (Option.bind (intOf? .i64 (AMem.ld M x1 0)) fun x_1 =>
    (if (decide (x6 < (IntKind.wrap .i64 (3 * x_1)))) = true
    then (Option.bind (rowOf (M ++ [AObj.cells [.int .i64 4, .int .i64 (IntKind.wrap .i64 (Int.tdiv x6 3)), .int .i64 (Int.tmod x6 3)] ⟨false, 0⟩]) 3 (.slice (some ⟨(List.length M), 0, none⟩) 1 3)) fun row_2 =>
      (appendK 3 24 x3 x3n x3c 1 row_2 (M ++ [AObj.cells [.int .i64 4, .int .i64 (IntKind.wrap .i64 (Int.tdiv x6 3)), .int .i64 (Int.tmod x6 3)] ⟨false, 0⟩]) fun p_3 n_4 c_5 M_6 =>
      code L c14_56 (postK [0, 2, 4, 5, 7, 8, 9, 10, 11, 12, 13, 14, 15, 16, 17, 18, 19, 20, 21, 22, 23, 24, 25, 26, 27, 28, 29, 30, 31, 32, 33, 34, 35, 36, 37, 38, 39, 40, 41, 42, 43, 44, 45, 46, 47, 48, 49] (loopK L b14_46 (blockK 4 (seqK (code L (.clear [0, 1, 2, 4, 5, 6, 7, 8, 9, 10, 11, 12, 13, 14, 15, 16, 17, 18, 19, 20, 21, 22, 23, 24, 25, 26, 27, 28, 29, 30, 31, 32, 33, 34, 35, 36, 37, 38, 39, 40, 41, 42, 43, 44, 45, 46, 47, 48, 49] c14_57) (retK [.tmp 2])) (retK [.tmp 2]))))) [junk, .pointer (some ⟨x1, 0, none⟩), junk, .slice p_3 n_4 c_5, junk, junk, .int .i64 x6, junk, junk, junk, junk, junk, junk, junk, junk, junk, junk, junk, junk, junk, junk, junk, junk, junk, junk, junk, junk, junk, junk, junk, junk, junk, junk, junk, junk, junk, junk, junk, junk, junk, junk, junk, junk, junk, junk, junk, junk, junk, junk, junk] M_6))
    else code L c14_57 (retK [.tmp 2]) [junk, junk, junk, .slice x3 x3n x3c, junk, junk, junk, junk, junk, junk, junk, junk, junk, junk, junk, junk, junk, junk, junk, junk, junk, junk, junk, junk, junk, junk, junk, junk, junk, junk, junk, junk, junk, junk, junk, junk, junk, junk, junk, junk, junk, junk, junk, junk, junk, junk, junk, junk, junk, junk] M)) := by kernel_rfl
theorem QP14_46_eq (L : Rec) (hL : ∀ b K t A, L.loop b K t A = code L b (loopK L b K) t A) (P14_46 : Rec → Nat → (Option Addr) → Nat → Nat → Int → AMem → Res) (hP14_46 : P14_46 = fun (L : Rec) (x1 : Nat) (x3 : Option Addr) (x3n : Nat) (x3c : Nat) (x6 : Int) (M : AMem) => L.loop b14_46 (k14_46 L) (s14_46 x1 x3 x3n x3c x6 M) M) (P14_56 : Rec → Nat → (Option Addr) → Nat → Nat → Int → AMem → Res) (hP14_56 : P14_56 = fun (L : Rec) (x1 : Nat) (x3 : Option Addr) (x3n : Nat) (x3c : Nat) (x6 : Int) (M : AMem) => code L c14_56 (k14_56 L) (s14_56 x1 x3 x3n x3c x6 M) M) (P14_57 : Rec → (Option Addr) → Nat → Nat → AMem → Res) (hP14_57 : P14_57 = fun (L : Rec) (x3 : Option Addr) (x3n : Nat) (x3c : Nat) (M : AMem) => code L c14_57 (k14_57 L) (s14_57 x3 x3n x3c M) M) (x1 : Nat) (x3 : Option Addr) (x3n : Nat) (x3c : Nat) (x6 : Int) (M : AMem) : P14_46 L x1 x3 x3n x3c x6 M =
  (Option.bind (intOf? .i64 (AMem.ld M x1 0)) fun x_1 =>
    (if (decide (x6 < (IntKind.wrap .i64 (3 * x_1)))) = true
    then (Option.bind (rowOf (M ++ [AObj.cells [.int .i64 4, .int .i64 (IntKind.wrap .i64 (Int.tdiv x6 3)), .int .i64 (Int.tmod x6 3)] ⟨false, 0⟩]) 3 (.slice (some ⟨(List.length M), 0, none⟩) 1 3)) fun row_2 =>
      (appendK 3 24 x3 x3n x3c 1 row_2 (M ++ [AObj.cells [.int .i64 4, .int .i64 (IntKind.wrap .i64 (Int.tdiv x6 3)), .int .i64 (Int.tmod x6 3)] ⟨false, 0⟩]) fun p_3 n_4 c_5 M_6 =>
      P14_56 L x1 p_3 n_4 c_5 x6 M_6))
    else P14_57 L x3 x3n x3c M)) := by
  subst hP14_46; subst hP14_56; subst hP14_57; exact Eq.trans (b := code L b14_46 (loopK L b14_46 (k14_46 L)) (s14_46 x1 x3 x3n x3c x6 M) M) (hL b14_46 (k14_46 L) (s14_46 x1 x3 x3n x3c x6 M) M) (Eq.mp (by kernel_rfl) (G14_46 L b14_46 c14_56 c14_57 x1 x3 x3n x3c x6 M))
theorem P14_46_eq (L : Rec) (hL : ∀ b K t A, L.loop b K t A = code L b (loopK L b K) t A) (x1 : Nat) (x3 : Option Addr) (x3n : Nat) (x3c : Nat) (x6 : Int) (M : AMem) : P14_46 L x1 x3 x3n x3c x6 M =
  (Option.bind (intOf? .i64 (AMem.ld M x1 0)) fun x_1 =>
    (if (decide (x6 < (IntKind.wrap .i64 (3 * x_1)))) = true
    then (Option.bind (rowOf (M ++ [AObj.cells [.int .i64 4, .int .i64 (IntKind.wrap .i64 (Int.tdiv x6 3)), .int .i64 (Int.tmod x6 3)] ⟨false, 0⟩]) 3 (.slice (some ⟨(List.length M), 0, none⟩) 1 3)) fun row_2 =>
      (appendK 3 24 x3 x3n x3c 1 row_2 (M ++ [AObj.cells [.int .i64 4, .int .i64 (IntKind.wrap .i64 (Int.tdiv x6 3)), .int .i64 (Int.tmod x6 3)] ⟨false, 0⟩]) fun p_3 n_4 c_5 M_6 =>
      P14_56 L x1 p_3 n_4 c_5 x6 M_6))
    else P14_57 L x3 x3n x3c M)) := QP14_46_eq L hL P14_46 (Classical.choose_spec XP14_46) P14_56 (Classical.choose_spec XP14_56) P14_57 (Classical.choose_spec XP14_57) x1 x3 x3n x3c x6 M
theorem G14_56 (L : Rec) (b14_46 c14_57 : ACode) (x1 : Nat) (x3 : Option Addr) (x3n : Nat) (x3c : Nat) (x6 : Int) (M : AMem) : code L (.ops o14_56) (postK [0, 2, 4, 5, 7, 8, 9, 10, 11, 12, 13, 14, 15, 16, 17, 18, 19, 20, 21, 22, 23, 24, 25, 26, 27, 28, 29, 30, 31, 32, 33, 34, 35, 36, 37, 38, 39, 40, 41, 42, 43, 44, 45, 46, 47, 48, 49] (loopK L b14_46 (blockK 4 (seqK (code L (.clear [0, 1, 2, 4, 5, 6, 7, 8, 9, 10, 11, 12, 13, 14, 15, 16, 17, 18, 19, 20, 21, 22, 23, 24, 25, 26, 27, 28, 29, 30, 31, 32, 33, 34, 35, 36, 37, 38, 39, 40, 41, 42, 43, 44, 45, 46, 47, 48, 49] c14_57) (retK [.tmp 2])) (retK [.tmp 2]))))) [junk, .pointer (some ⟨x1, 0, none⟩), junk, .slice x3 x3n x3c, junk, junk, .int .i64 x6, junk, junk, junk, junk, junk, junk, junk, junk, junk, junk, junk, junk, junk, junk, junk, junk, junk, junk, junk, junk, junk, junk, junk, junk, junk, junk, junk, junk, junk, junk, junk, junk, junk, junk, junk, junk, junk, junk, junk, junk, junk, junk, junk] M =
  L.loop b14_46 (blockK 4 (seqK (code L (.clear [0, 1, 2, 4, 5, 6, 7, 8, 9, 10, 11, 12, 13, 14, 15, 16, 17, 18, 19, 20, 21, 22, 23, 24, 25, 26, 27, 28, 29, 30, 31, 32, 33, 34, 35, 36, 37, 38, 39, 40, 41, 42, 43, 44, 45, 46, 47, 48, 49] c14_57) (retK [.tmp 2])) (retK [.tmp 2]))) [junk, .pointer (some ⟨x1, 0, none⟩), junk, .slice x3 x3n x3c, junk, junk, .int .i64 (IntKind.wrap .i64 (x6 + 1)), junk, junk, junk, junk, junk, junk, junk, junk, junk, junk, junk, junk, junk, junk, junk, junk, junk, junk, junk, junk, junk, junk, junk, junk, junk, junk, junk, junk, junk, junk, junk, junk, junk, junk, junk, junk, junk, junk, junk, junk, junk, junk, junk] M := by kernel_rfl
theorem QP14_56_eq (L : Rec) (P14_46 : Rec → Nat → (Option Addr) → Nat → Nat → Int → AMem → Res) (hP14_46 : P14_46 = fun (L : Rec) (x1 : Nat) (x3 : Option Addr) (x3n : Nat) (x3c : Nat) (x6 : Int) (M : AMem) => L.loop b14_46 (k14_46 L) (s14_46 x1 x3 x3n x3c x6 M) M) (P14_56 : Rec → Nat → (Option Addr) → Nat → Nat → Int → AMem → Res) (hP14_56 : P14_56 = fun (L : Rec) (x1 : Nat) (x3 : Option Addr) (x3n : Nat) (x3c : Nat) (x6 : Int) (M : AMem) => code L c14_56 (k14_56 L) (s14_56 x1 x3 x3n x3c x6 M) M) (x1 : Nat) (x3 : Option Addr) (x3n : Nat) (x3c : Nat) (x6 : Int) (M : AMem) : P14_56 L x1 x3 x3n x3c x6 M =
  P14_46 L x1 x3 x3n x3c (IntKind.wrap .i64 (x6 + 1)) M := by
  subst hP14_46; subst hP14_56; exact Eq.mp (by kernel_rfl) (G14_56 L b14_46 c14_57 x1 x3 x3n x3c x6 M)
theorem P14_56_eq (L : Rec) (x1 : Nat) (x3 : Option Addr) (x3n : Nat) (x3c : Nat) (x6 : Int) (M : AMem) : P14_56 L x1 x3 x3n x3c x6 M =
  P14_46 L x1 x3 x3n x3c (IntKind.wrap .i64 (x6 + 1)) M := QP14_56_eq L P14_46 (Classical.choose_spec XP14_46) P14_56 (Classical.choose_spec XP14_56) x1 x3 x3n x3c x6 M
theorem G14_57 (L : Rec) (x3 : Option Addr) (x3n : Nat) (x3c : Nat) (M : AMem) : code L (.seq (.ops o14_58) (.ret)) (retK [.tmp 2]) [junk, junk, junk, .slice x3 x3n x3c, junk, junk, junk, junk, junk, junk, junk, junk, junk, junk, junk, junk, junk, junk, junk, junk, junk, junk, junk, junk, junk, junk, junk, junk, junk, junk, junk, junk, junk, junk, junk, junk, junk, junk, junk, junk, junk, junk, junk, junk, junk, junk, junk, junk, junk, junk] M =
  some (.slice x3 x3n x3c, M) := by kernel_rfl
theorem QP14_57_eq (L : Rec) (P14_57 : Rec → (Option Addr) → Nat → Nat → AMem → Res) (hP14_57 : P14_57 = fun (L : Rec) (x3 : Option Addr) (x3n : Nat) (x3c : Nat) (M : AMem) => code L c14_57 (k14_57 L) (s14_57 x3 x3n x3c M) M) (x3 : Option Addr) (x3n : Nat) (x3c : Nat) (M : AMem) : P14_57 L x3 x3n x3c M =
  some (.slice x3 x3n x3c, M) := by
  subst hP14_57; exact Eq.mp (by kernel_rfl) (G14_57 L  x3 x3n x3c M)
theorem P14_57_eq (L : Rec) (x3 : Option Addr) (x3n : Nat) (x3c : Nat) (M : AMem) : P14_57 L x3 x3n x3c M =
  some (.slice x3 x3n x3c, M) := QP14_57_eq L P14_57 (Classical.choose_spec XP14_57) x3 x3n x3c M
theorem GE14 (L : Rec) (b14_16 c14_27 : ACode) (x0_0 : Int) (x0_1 : Int) (M : AMem) : enterF L ⟨50, [.tmp 2], .seq (.ops o14_1) (.seq (.seq (.ops o14_4) (.cond (.tmp 9) (.seq (.ops o14_7) (.ret)) (.skip))) (.seq (.ops o14_11) (.seq (.seq (.ops o14_14) (.block 0 (.clear [0, 2, 5, 6, 7, 8, 9, 10, 11, 12, 13, 14, 15, 16, 17, 18, 19, 20, 21, 22, 23, 24, 25, 26, 27, 28, 29, 30, 31, 32, 33, 34, 35, 36, 37, 38, 39, 40, 41, 42, 43, 44, 45, 46, 47, 48, 49] (.loop b14_16)))) (.clear [0, 2, 4, 5, 6, 7, 8, 9, 10, 11, 12, 13, 14, 15, 16, 17, 18, 19, 20, 21, 22, 23, 24, 25, 26, 27, 28, 29, 30, 31, 32, 33, 34, 35, 36, 37, 38, 39, 40, 41, 42, 43, 44, 45, 46, 47, 48, 49] c14_27))))⟩ [.agg #[.int .i64 x0_0, .int .i64 x0_1]] M =
  (Option.bind (intOf? .i64 (AMem.ld (M ++ [AObj.cells [.int .i64 x0_0, .int .i64 x0_1] ⟨false, 0⟩]) (List.length M) 0)) fun x_1 =>
    (Option.bind (intOf? .i64 (AMem.ld (M ++ [AObj.cells [.int .i64 x0_0, .int .i64 x0_1] ⟨false, 0⟩]) (List.length M) 1)) fun x_2 =>
    (Option.bind (L.call 12 [.agg #[.int .i64 x_1, .int .i64 x_2]] []) fun r_3 =>
    (Option.bind (boolOf? (some r_3.1)) fun q_4 =>
    (if (!q_4) = true
    then some (.slice none 0 0, (M ++ [AObj.cells [.int .i64 x0_0, .int .i64 x0_1] ⟨false, 0⟩]))
    else L.loop b14_16 (blockK 0 (seqK (code L (.clear [0, 2, 4, 5, 6, 7, 8, 9, 10, 11, 12, 13, 14, 15, 16, 17, 18, 19, 20, 21, 22, 23, 24, 25, 26, 27, 28, 29, 30, 31, 32, 33, 34, 35, 36, 37, 38, 39, 40, 41, 42, 43, 44, 45, 46, 47, 48, 49] c14_27) (retK [.tmp 2])) (retK [.tmp 2]))) [junk, .pointer (some ⟨(List.length M), 0, none⟩), junk, .slice (some ⟨(List.length (M ++ [AObj.cells [.int .i64 x0_0, .int .i64 x0_1] ⟨false, 0⟩])), 0, none⟩) 1 3, .int .i64 0, junk, junk, junk, junk, junk, junk, junk, junk, junk, junk, junk, junk, junk, junk, junk, junk, junk, junk, junk, junk, junk, junk, junk, junk, junk, junk, junk, junk, junk, junk, junk, junk, junk, junk, junk, junk, junk, junk, junk, junk, junk, junk, junk, junk, junk] ((M ++ [AObj.cells [.int .i64 x0_0, .int .i64 x0_1] ⟨false, 0⟩]) ++ [AObj.cells [.int .i64 1, .int .i64 0, .int .i64 0] ⟨false, 0⟩])))))) := by kernel_rfl
theorem QE14 (L : Rec) (P14_16 : Rec → Nat → (Option Addr) → Nat → Nat → Int → AMem → Res) (hP14_16 : P14_16 = fun (L : Rec) (x1 : Nat) (x3 : Option Addr) (x3n : Nat) (x3c : Nat) (x4 : Int) (M : AMem) => L.loop b14_16 (k14_16 L) (s14_16 x1 x3 x3n x3c x4 M) M) (x0_0 : Int) (x0_1 : Int) (M : AMem) : enterF L a14 [.agg #[.int .i64 x0_0, .int .i64 x0_1]] M =
  (Option.bind (intOf? .i64 (AMem.ld (M ++ [AObj.cells [.int .i64 x0_0, .int .i64 x0_1] ⟨false, 0⟩]) (List.length M) 0)) fun x_1 =>
    (Option.bind (intOf? .i64 (AMem.ld (M ++ [AObj.cells [.int .i64 x0_0, .int .i64 x0_1] ⟨false, 0⟩]) (List.length M) 1)) fun x_2 =>
    (Option.bind (L.call 12 [.agg #[.int .i64 x_1, .int .i64 x_2]] []) fun r_3 =>
    (Option.bind (boolOf? (some r_3.1)) fun q_4 =>
    (if (!q_4) = true
    then some (.slice none 0 0, (M ++ [AObj.cells [.int .i64 x0_0, .int .i64 x0_1] ⟨false, 0⟩]))
    else P14_16 L (List.length M) (some ⟨(List.length (M ++ [AObj.cells [.int .i64 x0_0, .int .i64 x0_1] ⟨false, 0⟩])), 0, none⟩) 1 3 0 ((M ++ [AObj.cells [.int .i64 x0_0, .int .i64 x0_1] ⟨false, 0⟩]) ++ [AObj.cells [.int .i64 1, .int .i64 0, .int .i64 0] ⟨false, 0⟩])))))) := by
  subst hP14_16; exact Eq.mp (by kernel_rfl) (GE14 L b14_16 c14_27 x0_0 x0_1 M)
theorem E14 (L : Rec) (x0_0 : Int) (x0_1 : Int) (M : AMem) : enterF L a14 [.agg #[.int .i64 x0_0, .int .i64 x0_1]] M =
  (Option.bind (intOf? .i64 (AMem.ld (M ++ [AObj.cells [.int .i64 x0_0, .int .i64 x0_1] ⟨false, 0⟩]) (List.length M) 0)) fun x_1 =>
    (Option.bind (intOf? .i64 (AMem.ld (M ++ [AObj.cells [.int .i64 x0_0, .int .i64 x0_1] ⟨false, 0⟩]) (List.length M) 1)) fun x_2 =>
    (Option.bind (L.call 12 [.agg #[.int .i64 x_1, .int .i64 x_2]] []) fun r_3 =>
    (Option.bind (boolOf? (some r_3.1)) fun q_4 =>
    (if (!q_4) = true
    then some (.slice none 0 0, (M ++ [AObj.cells [.int .i64 x0_0, .int .i64 x0_1] ⟨false, 0⟩]))
    else P14_16 L (List.length M) (some ⟨(List.length (M ++ [AObj.cells [.int .i64 x0_0, .int .i64 x0_1] ⟨false, 0⟩])), 0, none⟩) 1 3 0 ((M ++ [AObj.cells [.int .i64 x0_0, .int .i64 x0_1] ⟨false, 0⟩]) ++ [AObj.cells [.int .i64 1, .int .i64 0, .int .i64 0] ⟨false, 0⟩])))))) := QE14 L P14_16 (Classical.choose_spec XP14_16) x0_0 x0_1 M
/-! #### skylightref31.Find -/
noncomputable def k18_8 (L : Rec) : KT := blockK 0 (seqK (code L (.clear [0, 1, 2, 3, 4, 5, 6, 7, 8, 9, 10, 11, 12, 13, 14, 15, 16, 17, 18, 19, 20, 21] c18_25) (retK [.tmp 4])) (retK [.tmp 4]))
def s18_8 (x5 : Option Addr) (x5n : Nat) (x5c : Nat) (x6 : Int) (M : AMem) : List Value := [junk, junk, junk, .pointer (some ⟨1, 0, none⟩), junk, .slice x5 x5n x5c, .int .i64 x6, junk, junk, junk, junk, junk, junk, junk, junk, junk, junk, junk, junk, junk, junk, junk]
theorem XP18_8 : ∃ P : Rec → (Option Addr) → Nat → Nat → Int → AMem → Res, P = fun (L : Rec) (x5 : Option Addr) (x5n : Nat) (x5c : Nat) (x6 : Int) (M : AMem) => L.loop b18_8 (k18_8 L) (s18_8 x5 x5n x5c x6 M) M := ⟨_, rfl⟩
noncomputable def P18_8 : Rec → (Option Addr) → Nat → Nat → Int → AMem → Res := Classical.choose XP18_8
noncomputable def k18_24 (L : Rec) : KT := postK [0, 1, 2, 4, 7, 8, 9, 10, 11, 12, 13, 14, 15, 16, 17, 18, 19, 20, 21] (loopK L b18_8 (blockK 0 (seqK (code L (.clear [0, 1, 2, 3, 4, 5, 6, 7, 8, 9, 10, 11, 12, 13, 14, 15, 16, 17, 18, 19, 20, 21] c18_25) (retK [.tmp 4])) (retK [.tmp 4]))))
def s18_24 (x5 : Option Addr) (x5n : Nat) (x5c : Nat) (x6 : Int) (M : AMem) : List Value := [junk, junk, junk, .pointer (some ⟨1, 0, none⟩), junk, .slice x5 x5n x5c, .int .i64 x6, junk, junk, junk, junk, junk, junk, junk, junk, junk, junk, junk, junk, junk, junk, junk]
theorem XP18_24 : ∃ P : Rec → (Option Addr) → Nat → Nat → Int → AMem → Res, P = fun (L : Rec) (x5 : Option Addr) (x5n : Nat) (x5c : Nat) (x6 : Int) (M : AMem) => code L c18_24 (k18_24 L) (s18_24 x5 x5n x5c x6 M) M := ⟨_, rfl⟩
noncomputable def P18_24 : Rec → (Option Addr) → Nat → Nat → Int → AMem → Res := Classical.choose XP18_24
noncomputable def k18_25 (L : Rec) : KT := retK [.tmp 4]
def s18_25 (M : AMem) : List Value := [junk, junk, junk, junk, junk, junk, junk, junk, junk, junk, junk, junk, junk, junk, junk, junk, junk, junk, junk, junk, junk, junk]
theorem XP18_25 : ∃ P : Rec → AMem → Res, P = fun (L : Rec) (M : AMem) => code L c18_25 (k18_25 L) (s18_25 M) M := ⟨_, rfl⟩
noncomputable def P18_25 : Rec → AMem → Res := Classical.choose XP18_25
theorem G18_8 (L : Rec) (b18_8 c18_24 c18_25 : ACode) (x5 : Option Addr) (x5n : Nat) (x5c : Nat) (x6 : Int) (M : AMem) : code L (.post (.seq (.seq (.ops o18_11) (.cond (.tmp 12) (.skip) (.exit 0))) (.seq (.block 1 (.seq (.draw [] 0 o18_18 []) (.cond (.tmp 20) (.seq (.ops o18_21) (.ret)) (.skip)))) (.clear [0, 1, 2, 4, 7, 8, 9, 10, 11, 12, 13, 14, 15, 16, 17, 18, 19, 20, 21] c18_24))) [0, 1, 2, 4, 7, 8, 9, 10, 11, 12, 13, 14, 15, 16, 17, 18, 19, 20, 21]) (loopK L b18_8 (blockK 0 (seqK (code L (.clear [0, 1, 2, 3, 4, 5, 6, 7, 8, 9, 10, 11, 12, 13, 14, 15, 16, 17, 18, 19, 20, 21] c18_25) (retK [.tmp 4])) (retK [.tmp 4])))) [junk, junk, junk, .pointer (some ⟨1, 0, none⟩), junk, .slice x5 x5n x5c, .int .i64 x6, junk, junk, junk, junk, junk, junk, junk, junk, junk, junk, junk, junk, junk, junk, junk] M =
  (if (decide (x6 < (Int.ofNat x5n))) = true
    then (match x5 with
      | some a_1 => (if 0 ≤ x6 ∧ x6 < (Int.ofNat x5n)
        then (Option.bind (intOf? .i64 (AMem.ld M a_1.block (a_1.off + ((Int.toNat x6) * 3)))) fun x_2 =>
          (Option.bind (intOf? .i64 (AMem.ld M a_1.block ((a_1.off + ((Int.toNat x6) * 3)) + 1))) fun x_3 =>
          (Option.bind (intOf? .i64 (AMem.ld M a_1.block ((a_1.off + ((Int.toNat x6) * 3)) + 2))) fun x_4 =>
          (Option.bind (intOf? .i64 (AMem.ld M 1 0)) fun x_5 =>
          (Option.bind (intOf? .i64 (AMem.ld M 1 1)) fun x_6 =>
          (Option.bind (intOf? .i64 (AMem.ld M 1 2)) fun x_7 =>
          (if ((x_2 == x_5) && ((x_3 == x_6) && (x_4 == x_7))) = true
          then some (.int .i64 x6, M)
          else code L c18_24 (postK [0, 1, 2, 4, 7, 8, 9, 10, 11, 12, 13, 14, 15, 16, 17, 18, 19, 20, 21] (loopK L b18_8 (blockK 0 (seqK (code L (.clear [0, 1, 2, 3, 4, 5, 6, 7, 8, 9, 10, 11, 12, 13, 14, 15, 16, 17, 18, 19, 20, 21] c18_25) (retK [.tmp 4])) (retK [.tmp 4]))))) [junk, junk, junk, .pointer (some ⟨1, 0, none⟩), junk, .slice x5 x5n x5c, .int .i64 x6, junk, junk, junk, junk, junk, junk, junk, junk, junk, junk, junk, junk, junk, junk, junk] M)))))))
        else none)
      | none => none)
    else code L c18_25 (retK [.tmp 4]) [junk, junk, junk, junk, junk, junk, junk, junk, junk, junk, junk, junk, junk, junk, junk, junk, junk, junk, junk, junk, junk, junk] M) := by kernel_rfl
theorem QP18_8_eq (L : Rec) (hL : ∀ b K t A, L.loop b K t A = code L b (loopK L b K) t A) (P18_8 : Rec → (Option Addr) → Nat → Nat → Int → AMem → Res) (hP18_8 : P18_8 = fun (L : Rec) (x5 : Option Addr) (x5n : Nat) (x5c : Nat) (x6 : Int) (M : AMem) => L.loop b18_8 (k18_8 L) (s18_8 x5 x5n x5c x6 M) M) (P18_24 : Rec → (Option Addr) → Nat → Nat → Int → AMem → Res) (hP18_24 : P18_24 = fun (L : Rec) (x5 : Option Addr) (x5n : Nat) (x5c : Nat) (x6 : Int) (M : AMem) => code L c18_24 (k18_24 L) (s18_24 x5 x5n x5c x6 M) M) (P18_25 : Rec → AMem → Res) (hP18_25 : P18_25 = fun (L : Rec) (M : AMem) => code L c18_25 (k18_25 L) (s18_25 M) M) (x5 : Option Addr) (x5n : Nat) (x5c : Nat) (x6 : Int) (M : AMem) : P18_8 L x5 x5n x5c x6 M =
  (if (decide (x6 < (Int.ofNat x5n))) = true
    then (match x5 with
      | some a_1 => (if 0 ≤ x6 ∧ x6 < (Int.ofNat x5n)
        then (Option.bind (intOf? .i64 (AMem.ld M a_1.block (a_1.off + ((Int.toNat x6) * 3)))) fun x_2 =>
          (Option.bind (intOf? .i64 (AMem.ld M a_1.block ((a_1.off + ((Int.toNat x6) * 3)) + 1))) fun x_3 =>
          (Option.bind (intOf? .i64 (AMem.ld M a_1.block ((a_1.off + ((Int.toNat x6) * 3)) + 2))) fun x_4 =>
          (Option.bind (intOf? .i64 (AMem.ld M 1 0)) fun x_5 =>
          (Option.bind (intOf? .i64 (AMem.ld M 1 1)) fun x_6 =>
          (Option.bind (intOf? .i64 (AMem.ld M 1 2)) fun x_7 =>
          (if ((x_2 == x_5) && ((x_3 == x_6) && (x_4 == x_7))) = true
          then some (.int .i64 x6, M)
          else P18_24 L x5 x5n x5c x6 M)))))))
        else none)
      | none => none)
    else P18_25 L M) := by
  subst hP18_8; subst hP18_24; subst hP18_25; exact Eq.trans (b := code L b18_8 (loopK L b18_8 (k18_8 L)) (s18_8 x5 x5n x5c x6 M) M) (hL b18_8 (k18_8 L) (s18_8 x5 x5n x5c x6 M) M) (Eq.mp (by kernel_rfl) (G18_8 L b18_8 c18_24 c18_25 x5 x5n x5c x6 M))
theorem P18_8_eq (L : Rec) (hL : ∀ b K t A, L.loop b K t A = code L b (loopK L b K) t A) (x5 : Option Addr) (x5n : Nat) (x5c : Nat) (x6 : Int) (M : AMem) : P18_8 L x5 x5n x5c x6 M =
  (if (decide (x6 < (Int.ofNat x5n))) = true
    then (match x5 with
      | some a_1 => (if 0 ≤ x6 ∧ x6 < (Int.ofNat x5n)
        then (Option.bind (intOf? .i64 (AMem.ld M a_1.block (a_1.off + ((Int.toNat x6) * 3)))) fun x_2 =>
          (Option.bind (intOf? .i64 (AMem.ld M a_1.block ((a_1.off + ((Int.toNat x6) * 3)) + 1))) fun x_3 =>
          (Option.bind (intOf? .i64 (AMem.ld M a_1.block ((a_1.off + ((Int.toNat x6) * 3)) + 2))) fun x_4 =>
          (Option.bind (intOf? .i64 (AMem.ld M 1 0)) fun x_5 =>
          (Option.bind (intOf? .i64 (AMem.ld M 1 1)) fun x_6 =>
          (Option.bind (intOf? .i64 (AMem.ld M 1 2)) fun x_7 =>
          (if ((x_2 == x_5) && ((x_3 == x_6) && (x_4 == x_7))) = true
          then some (.int .i64 x6, M)
          else P18_24 L x5 x5n x5c x6 M)))))))
        else none)
      | none => none)
    else P18_25 L M) := QP18_8_eq L hL P18_8 (Classical.choose_spec XP18_8) P18_24 (Classical.choose_spec XP18_24) P18_25 (Classical.choose_spec XP18_25) x5 x5n x5c x6 M
theorem G18_24 (L : Rec) (b18_8 c18_25 : ACode) (x5 : Option Addr) (x5n : Nat) (x5c : Nat) (x6 : Int) (M : AMem) : code L (.ops o18_24) (postK [0, 1, 2, 4, 7, 8, 9, 10, 11, 12, 13, 14, 15, 16, 17, 18, 19, 20, 21] (loopK L b18_8 (blockK 0 (seqK (code L (.clear [0, 1, 2, 3, 4, 5, 6, 7, 8, 9, 10, 11, 12, 13, 14, 15, 16, 17, 18, 19, 20, 21] c18_25) (retK [.tmp 4])) (retK [.tmp 4]))))) [junk, junk, junk, .pointer (some ⟨1, 0, none⟩), junk, .slice x5 x5n x5c, .int .i64 x6, junk, junk, junk, junk, junk, junk, junk, junk, junk, junk, junk, junk, junk, junk, junk] M =
  L.loop b18_8 (blockK 0 (seqK (code L (.clear [0, 1, 2, 3, 4, 5, 6, 7, 8, 9, 10, 11, 12, 13, 14, 15, 16, 17, 18, 19, 20, 21] c18_25) (retK [.tmp 4])) (retK [.tmp 4]))) [junk, junk, junk, .pointer (some ⟨1, 0, none⟩), junk, .slice x5 x5n x5c, .int .i64 (IntKind.wrap .i64 (x6 + 1)), junk, junk, junk, junk, junk, junk, junk, junk, junk, junk, junk, junk, junk, junk, junk] M := by kernel_rfl
theorem QP18_24_eq (L : Rec) (P18_8 : Rec → (Option Addr) → Nat → Nat → Int → AMem → Res) (hP18_8 : P18_8 = fun (L : Rec) (x5 : Option Addr) (x5n : Nat) (x5c : Nat) (x6 : Int) (M : AMem) => L.loop b18_8 (k18_8 L) (s18_8 x5 x5n x5c x6 M) M) (P18_24 : Rec → (Option Addr) → Nat → Nat → Int → AMem → Res) (hP18_24 : P18_24 = fun (L : Rec) (x5 : Option Addr) (x5n : Nat) (x5c : Nat) (x6 : Int) (M : AMem) => code L c18_24 (k18_24 L) (s18_24 x5 x5n x5c x6 M) M) (x5 : Option Addr) (x5n : Nat) (x5c : Nat) (x6 : Int) (M : AMem) : P18_24 L x5 x5n x5c x6 M =
  P18_8 L x5 x5n x5c (IntKind.wrap .i64 (x6 + 1)) M := by
  subst hP18_8; subst hP18_24; exact Eq.mp (by kernel_rfl) (G18_24 L b18_8 c18_25 x5 x5n x5c x6 M)
theorem P18_24_eq (L : Rec) (x5 : Option Addr) (x5n : Nat) (x5c : Nat) (x6 : Int) (M : AMem) : P18_24 L x5 x5n x5c x6 M =
  P18_8 L x5 x5n x5c (IntKind.wrap .i64 (x6 + 1)) M := QP18_24_eq L P18_8 (Classical.choose_spec XP18_8) P18_24 (Classical.choose_spec XP18_24) x5 x5n x5c x6 M
theorem G18_25 (L : Rec) (M : AMem) : code L (.seq (.ops o18_26) (.ret)) (retK [.tmp 4]) [junk, junk, junk, junk, junk, junk, junk, junk, junk, junk, junk, junk, junk, junk, junk, junk, junk, junk, junk, junk, junk, junk] M =
  some (.int .i64 (-1), M) := by kernel_rfl
theorem QP18_25_eq (L : Rec) (P18_25 : Rec → AMem → Res) (hP18_25 : P18_25 = fun (L : Rec) (M : AMem) => code L c18_25 (k18_25 L) (s18_25 M) M) (M : AMem) : P18_25 L M =
  some (.int .i64 (-1), M) := by
  subst hP18_25; exact Eq.mp (by kernel_rfl) (G18_25 L  M)
theorem P18_25_eq (L : Rec) (M : AMem) : P18_25 L M =
  some (.int .i64 (-1), M) := QP18_25_eq L P18_25 (Classical.choose_spec XP18_25) M
theorem GE18 (L : Rec) (b18_8 c18_25 : ACode) (x0_0 : Int) (x0_1 : Int) (x1_0 : Int) (x1_1 : Int) (x1_2 : Int) : enterF L ⟨22, [.tmp 4], .seq (.ops o18_1) (.seq (.ops o18_3) (.seq (.seq (.ops o18_6) (.block 0 (.clear [0, 1, 2, 4, 7, 8, 9, 10, 11, 12, 13, 14, 15, 16, 17, 18, 19, 20, 21] (.loop b18_8)))) (.clear [0, 1, 2, 3, 4, 5, 6, 7, 8, 9, 10, 11, 12, 13, 14, 15, 16, 17, 18, 19, 20, 21] c18_25)))⟩ [.agg #[.int .i64 x0_0, .int .i64 x0_1], .agg #[.int .i64 x1_0, .int .i64 x1_1, .int .i64 x1_2]] [] =
  (Option.bind (L.call 14 [.agg #[.int .i64 x0_0, .int .i64 x0_1]] ([AObj.cells [.int .i64 x0_0, .int .i64 x0_1] ⟨false, 0⟩, AObj.cells [.int .i64 x1_0, .int .i64 x1_1, .int .i64 x1_2] ⟨false, 0⟩] : AMem)) fun r_1 =>
    (Option.bind (sliceOf? (some r_1.1)) fun s_2 =>
    L.loop b18_8 (blockK 0 (seqK (code L (.clear [0, 1, 2, 3, 4, 5, 6, 7, 8, 9, 10, 11, 12, 13, 14, 15, 16, 17, 18, 19, 20, 21] c18_25) (retK [.tmp 4])) (retK [.tmp 4]))) [junk, junk, junk, .pointer (some ⟨1, 0, none⟩), junk, .slice s_2.1 s_2.2.1 s_2.2.2, .int .i64 0, junk, junk, junk, junk, junk, junk, junk, junk, junk, junk, junk, junk, junk, junk, junk] r_1.2)) := by kernel_rfl
theorem QE18 (L : Rec) (P18_8 : Rec → (Option Addr) → Nat → Nat → Int → AMem → Res) (hP18_8 : P18_8 = fun (L : Rec) (x5 : Option Addr) (x5n : Nat) (x5c : Nat) (x6 : Int) (M : AMem) => L.loop b18_8 (k18_8 L) (s18_8 x5 x5n x5c x6 M) M) (x0_0 : Int) (x0_1 : Int) (x1_0 : Int) (x1_1 : Int) (x1_2 : Int) : enterF L a18 [.agg #[.int .i64 x0_0, .int .i64 x0_1], .agg #[.int .i64 x1_0, .int .i64 x1_1, .int .i64 x1_2]] [] =
  (Option.bind (L.call 14 [.agg #[.int .i64 x0_0, .int .i64 x0_1]] ([AObj.cells [.int .i64 x0_0, .int .i64 x0_1] ⟨false, 0⟩, AObj.cells [.int .i64 x1_0, .int .i64 x1_1, .int .i64 x1_2] ⟨false, 0⟩] : AMem)) fun r_1 =>
    (Option.bind (sliceOf? (some r_1.1)) fun s_2 =>
    P18_8 L s_2.1 s_2.2.1 s_2.2.2 0 r_1.2)) := by
  subst hP18_8; exact Eq.mp (by kernel_rfl) (GE18 L b18_8 c18_25 x0_0 x0_1 x1_0 x1_1 x1_2)
theorem E18 (L : Rec) (x0_0 : Int) (x0_1 : Int) (x1_0 : Int) (x1_1 : Int) (x1_2 : Int) : enterF L a18 [.agg #[.int .i64 x0_0, .int .i64 x0_1], .agg #[.int .i64 x1_0, .int .i64 x1_1, .int .i64 x1_2]] [] =
  (Option.bind (L.call 14 [.agg #[.int .i64 x0_0, .int .i64 x0_1]] ([AObj.cells [.int .i64 x0_0, .int .i64 x0_1] ⟨false, 0⟩, AObj.cells [.int .i64 x1_0, .int .i64 x1_1, .int .i64 x1_2] ⟨false, 0⟩] : AMem)) fun r_1 =>
    (Option.bind (sliceOf? (some r_1.1)) fun s_2 =>
    P18_8 L s_2.1 s_2.2.1 s_2.2.2 0 r_1.2)) := QE18 L P18_8 (Classical.choose_spec XP18_8) x0_0 x0_1 x1_0 x1_1 x1_2
/-! #### skylightlaw31.LayoutOnce -/
noncomputable def k4_51 (L : Rec) : KT := retK [.tmp 6]
def s4_51 (x2 : Int) (x9 : Int) (x11 : Int) (m0_0 : Int) (m0_1 : Int) (m1_0 : Int) (m1_1 : Int) (m2_0 : Int) (m2_1 : Int) (m2_2 : Int) : List Value := [junk, junk, .int .u16 x2, .pointer (some ⟨0, 0, none⟩), junk, junk, junk, .pointer (some ⟨1, 0, none⟩), junk, .int .i64 x9, junk, .int .i64 x11, junk, junk, junk, junk, junk, junk, junk, junk, junk, junk, junk, junk, junk, junk, junk, junk, junk, junk, junk, junk, junk, junk, junk, junk, junk, junk, junk, junk, junk, junk, junk, junk, junk, junk, junk, junk, junk, junk, junk, junk, junk, junk, junk, junk, junk, junk, junk, junk, junk, junk, junk, junk, junk, junk, junk, junk, junk, junk, junk, junk, junk, junk, junk, junk, junk, junk, junk, junk, junk, junk, junk, junk, junk, junk, junk, junk, junk, junk, junk, junk, junk, junk, junk, junk, junk, junk, junk, junk, junk, junk, junk, junk, junk, junk, junk, junk, junk, junk, junk, junk, junk, junk, junk, junk, junk, junk, junk, junk, junk, junk, junk, junk, junk, junk, junk, junk]
theorem XP4_51 : ∃ P : Rec → Int → Int → Int → Int → Int → Int → Int → Int → Int → Int → Res, P = fun (L : Rec) (x2 : Int) (x9 : Int) (x11 : Int) (m0_0 : Int) (m0_1 : Int) (m1_0 : Int) (m1_1 : Int) (m2_0 : Int) (m2_1 : Int) (m2_2 : Int) => code L c4_51 (k4_51 L) (s4_51 x2 x9 x11 m0_0 m0_1 m1_0 m1_1 m2_0 m2_1 m2_2) ([AObj.cells [.int .i64 m0_0, .int .i64 m0_1] ⟨false, 0⟩, AObj.cells [.int .i64 m1_0, .int .i64 m1_1] ⟨false, 1⟩, AObj.cells [.int .i64 m2_0, .int .i64 m2_1, .int .i64 m2_2] ⟨false, 1⟩] : AMem) := ⟨_, rfl⟩
noncomputable def P4_51 : Rec → Int → Int → Int → Int → Int → Int → Int → Int → Int → Int → Res := Classical.choose XP4_51
theorem G4_51 (L : Rec) (x2 : Int) (x9 : Int) (x11 : Int) (m0_0 : Int) (m0_1 : Int) (m1_0 : Int) (m1_1 : Int) (m2_0 : Int) (m2_1 : Int) (m2_2 : Int) : code L (.seq (.ops o4_52) (.seq (.ops o4_54) (.seq (.draw [] 0 o4_56 []) (.ret)))) (retK [.tmp 6]) [junk, junk, .int .u16 x2, .pointer (some ⟨0, 0, none⟩), junk, junk, junk, .pointer (some ⟨1, 0, none⟩), junk, .int .i64 x9, junk, .int .i64 x11, junk, junk, junk, junk, junk, junk, junk, junk, junk, junk, junk, junk, junk, junk, junk, junk, junk, junk, junk, junk, junk, junk, junk, junk, junk, junk, junk, junk, junk, junk, junk, junk, junk, junk, junk, junk, junk, junk, junk, junk, junk, junk, junk, junk, junk, junk, junk, junk, junk, junk, junk, junk, junk, junk, junk, junk, junk, junk, junk, junk, junk, junk, junk, junk, junk, junk, junk, junk, junk, junk, junk, junk, junk, junk, junk, junk, junk, junk, junk, junk, junk, junk, junk, junk, junk, junk, junk, junk, junk, junk, junk, junk, junk, junk, junk, junk, junk, junk, junk, junk, junk, junk, junk, junk, junk, junk, junk, junk, junk, junk, junk, junk, junk, junk, junk, junk] ([AObj.cells [.int .i64 m0_0, .int .i64 m0_1] ⟨false, 0⟩, AObj.cells [.int .i64 m1_0, .int .i64 m1_1] ⟨false, 1⟩, AObj.cells [.int .i64 m2_0, .int .i64 m2_1, .int .i64 m2_2] ⟨false, 1⟩] : AMem) =
  (if m0_0 = 0
    then none
    else (Option.bind (L.call 21 [.agg #[.int .i64 m1_0, .int .i64 m1_1], .int .i64 (Int.tmod (IntKind.wrap .i64 x2) m0_0)] []) fun r_1 =>
      (Option.bind (intOf? .i64 (some r_1.1)) fun x_2 =>
      (if (x11 == x9) = true
      then (if (decide (x_2 ≥ 0)) = true
        then (if (decide (x_2 < m0_1)) = true
          then (if (decide ((IntKind.wrap .i64 ((Int.tmod (IntKind.wrap .i64 x2) m0_0) + m0_1)) ≥ m0_0)) = true
            then (if (decide ((IntKind.wrap .i64 ((Int.tmod (IntKind.wrap .i64 x2) m0_0) + 1)) ≥ m0_0)) = true
              then (Option.bind (L.call 20 [.agg #[.int .i64 m1_0, .int .i64 m1_1], .int .i64 (Int.tmod (IntKind.wrap .i64 x2) m0_0), .int .i64 2] []) fun r_3 =>
                (Option.bind (intOf? .i64 (some r_3.1)) fun x_4 =>
                (Option.bind (L.call 22 [.agg #[.int .i64 m1_0, .int .i64 m1_1], .int .i64 x_4] []) fun r_5 =>
                (Option.bind (aggOf? 3 r_5.1) fun cs_6 =>
                (Option.bind (intOf? .i64 (cs_6[0]?)) fun x_7 =>
                (Option.bind (intOf? .i64 (cs_6[1]?)) fun x_8 =>
                (Option.bind (intOf? .i64 (cs_6[2]?)) fun x_9 =>
                (if ((x_7 == 4) && ((x_8 == (Int.tmod (IntKind.wrap .i64 x2) m0_0)) && (x_9 == 2))) = true
                then (Option.bind (L.call 13 [] []) fun r_10 =>
                  (Option.bind (boolOf? (some r_10.1)) fun q_11 =>
                  some (.bool q_11, ([AObj.cells [.int .i64 m0_0, .int .i64 m0_1] ⟨false, 0⟩, AObj.cells [.int .i64 m1_0, .int .i64 m1_1] ⟨false, 1⟩, AObj.cells [.int .i64 m2_0, .int .i64 m2_1, .int .i64 m2_2] ⟨false, 1⟩] : AMem))))
                else some (.bool false, ([AObj.cells [.int .i64 m0_0, .int .i64 m0_1] ⟨false, 0⟩, AObj.cells [.int .i64 m1_0, .int .i64 m1_1] ⟨false, 1⟩, AObj.cells [.int .i64 m2_0, .int .i64 m2_1, .int .i64 m2_2] ⟨false, 1⟩] : AMem))))))))))
              else (if (m0_1 == 1) = true
                then (Option.bind (L.call 20 [.agg #[.int .i64 m1_0, .int .i64 m1_1], .int .i64 (Int.tmod (IntKind.wrap .i64 x2) m0_0), .int .i64 2] []) fun r_12 =>
                  (Option.bind (intOf? .i64 (some r_12.1)) fun x_13 =>
                  (Option.bind (L.call 22 [.agg #[.int .i64 m1_0, .int .i64 m1_1], .int .i64 x_13] []) fun r_14 =>
                  (Option.bind (aggOf? 3 r_14.1) fun cs_15 =>
                  (Option.bind (intOf? .i64 (cs_15[0]?)) fun x_16 =>
                  (Option.bind (intOf? .i64 (cs_15[1]?)) fun x_17 =>
                  (Option.bind (intOf? .i64 (cs_15[2]?)) fun x_18 =>
                  (if ((x_16 == 4) && ((x_17 == (Int.tmod (IntKind.wrap .i64 x2) m0_0)) && (x_18 == 2))) = true
                  then (Option.bind (L.call 13 [] []) fun r_19 =>
                    (Option.bind (boolOf? (some r_19.1)) fun q_20 =>
                    some (.bool q_20, ([AObj.cells [.int .i64 m0_0, .int .i64 m0_1] ⟨false, 0⟩, AObj.cells [.int .i64 m1_0, .int .i64 m1_1] ⟨false, 1⟩, AObj.cells [.int .i64 m2_0, .int .i64 m2_1, .int .i64 m2_2] ⟨false, 1⟩] : AMem))))
                  else some (.bool false, ([AObj.cells [.int .i64 m0_0, .int .i64 m0_1] ⟨false, 0⟩, AObj.cells [.int .i64 m1_0, .int .i64 m1_1] ⟨false, 1⟩, AObj.cells [.int .i64 m2_0, .int .i64 m2_1, .int .i64 m2_2] ⟨false, 1⟩] : AMem))))))))))
                else (Option.bind (L.call 21 [.agg #[.int .i64 m1_0, .int .i64 m1_1], .int .i64 (IntKind.wrap .i64 ((Int.tmod (IntKind.wrap .i64 x2) m0_0) + 1))] []) fun r_21 =>
                  (Option.bind (intOf? .i64 (some r_21.1)) fun x_22 =>
                  (if (x_22 != x_2) = true
                  then (Option.bind (L.call 20 [.agg #[.int .i64 m1_0, .int .i64 m1_1], .int .i64 (Int.tmod (IntKind.wrap .i64 x2) m0_0), .int .i64 2] []) fun r_23 =>
                    (Option.bind (intOf? .i64 (some r_23.1)) fun x_24 =>
                    (Option.bind (L.call 22 [.agg #[.int .i64 m1_0, .int .i64 m1_1], .int .i64 x_24] []) fun r_25 =>
                    (Option.bind (aggOf? 3 r_25.1) fun cs_26 =>
                    (Option.bind (intOf? .i64 (cs_26[0]?)) fun x_27 =>
                    (Option.bind (intOf? .i64 (cs_26[1]?)) fun x_28 =>
                    (Option.bind (intOf? .i64 (cs_26[2]?)) fun x_29 =>
                    (if ((x_27 == 4) && ((x_28 == (Int.tmod (IntKind.wrap .i64 x2) m0_0)) && (x_29 == 2))) = true
                    then (Option.bind (L.call 13 [] []) fun r_30 =>
                      (Option.bind (boolOf? (some r_30.1)) fun q_31 =>
                      some (.bool q_31, ([AObj.cells [.int .i64 m0_0, .int .i64 m0_1] ⟨false, 0⟩, AObj.cells [.int .i64 m1_0, .int .i64 m1_1] ⟨false, 1⟩, AObj.cells [.int .i64 m2_0, .int .i64 m2_1, .int .i64 m2_2] ⟨false, 1⟩] : AMem))))
                    else some (.bool false, ([AObj.cells [.int .i64 m0_0, .int .i64 m0_1] ⟨false, 0⟩, AObj.cells [.int .i64 m1_0, .int .i64 m1_1] ⟨false, 1⟩, AObj.cells [.int .i64 m2_0, .int .i64 m2_1, .int .i64 m2_2] ⟨false, 1⟩] : AMem))))))))))
                  else some (.bool false, ([AObj.cells [.int .i64 m0_0, .int .i64 m0_1] ⟨false, 0⟩, AObj.cells [.int .i64 m1_0, .int .i64 m1_1] ⟨false, 1⟩, AObj.cells [.int .i64 m2_0, .int .i64 m2_1, .int .i64 m2_2] ⟨false, 1⟩] : AMem)))))))
            else (Option.bind (L.call 21 [.agg #[.int .i64 m1_0, .int .i64 m1_1], .int .i64 (IntKind.wrap .i64 ((Int.tmod (IntKind.wrap .i64 x2) m0_0) + m0_1))] []) fun r_32 =>
              (Option.bind (intOf? .i64 (some r_32.1)) fun x_33 =>
              (if (x_33 == x_2) = true
              then (if (decide ((IntKind.wrap .i64 ((Int.tmod (IntKind.wrap .i64 x2) m0_0) + 1)) ≥ m0_0)) = true
                then (Option.bind (L.call 20 [.agg #[.int .i64 m1_0, .int .i64 m1_1], .int .i64 (Int.tmod (IntKind.wrap .i64 x2) m0_0), .int .i64 2] []) fun r_34 =>
                  (Option.bind (intOf? .i64 (some r_34.1)) fun x_35 =>
                  (Option.bind (L.call 22 [.agg #[.int .i64 m1_0, .int .i64 m1_1], .int .i64 x_35] []) fun r_36 =>
                  (Option.bind (aggOf? 3 r_36.1) fun cs_37 =>
                  (Option.bind (intOf? .i64 (cs_37[0]?)) fun x_38 =>
                  (Option.bind (intOf? .i64 (cs_37[1]?)) fun x_39 =>
                  (Option.bind (intOf? .i64 (cs_37[2]?)) fun x_40 =>
                  (if ((x_38 == 4) && ((x_39 == (Int.tmod (IntKind.wrap .i64 x2) m0_0)) && (x_40 == 2))) = true
                  then (Option.bind (L.call 13 [] []) fun r_41 =>
                    (Option.bind (boolOf? (some r_41.1)) fun q_42 =>
                    some (.bool q_42, ([AObj.cells [.int .i64 m0_0, .int .i64 m0_1] ⟨false, 0⟩, AObj.cells [.int .i64 m1_0, .int .i64 m1_1] ⟨false, 1⟩, AObj.cells [.int .i64 m2_0, .int .i64 m2_1, .int .i64 m2_2] ⟨false, 1⟩] : AMem))))
                  else some (.bool false, ([AObj.cells [.int .i64 m0_0, .int .i64 m0_1] ⟨false, 0⟩, AObj.cells [.int .i64 m1_0, .int .i64 m1_1] ⟨false, 1⟩, AObj.cells [.int .i64 m2_0, .int .i64 m2_1, .int .i64 m2_2] ⟨false, 1⟩] : AMem))))))))))
                else (if (m0_1 == 1) = true
                  then (Option.bind (L.call 20 [.agg #[.int .i64 m1_0, .int .i64 m1_1], .int .i64 (Int.tmod (IntKind.wrap .i64 x2) m0_0), .int .i64 2] []) fun r_43 =>
                    (Option.bind (intOf? .i64 (some r_43.1)) fun x_44 =>
                    (Option.bind (L.call 22 [.agg #[.int .i64 m1_0, .int .i64 m1_1], .int .i64 x_44] []) fun r_45 =>
                    (Option.bind (aggOf? 3 r_45.1) fun cs_46 =>
                    (Option.bind (intOf? .i64 (cs_46[0]?)) fun x_47 =>
                    (Option.bind (intOf? .i64 (cs_46[1]?)) fun x_48 =>
                    (Option.bind (intOf? .i64 (cs_46[2]?)) fun x_49 =>
                    (if ((x_47 == 4) && ((x_48 == (Int.tmod (IntKind.wrap .i64 x2) m0_0)) && (x_49 == 2))) = true
                    then (Option.bind (L.call 13 [] []) fun r_50 =>
                      (Option.bind (boolOf? (some r_50.1)) fun q_51 =>
                      some (.bool q_51, ([AObj.cells [.int .i64 m0_0, .int .i64 m0_1] ⟨false, 0⟩, AObj.cells [.int .i64 m1_0, .int .i64 m1_1] ⟨false, 1⟩, AObj.cells [.int .i64 m2_0, .int .i64 m2_1, .int .i64 m2_2] ⟨false, 1⟩] : AMem))))
                    else some (.bool false, ([AObj.cells [.int .i64 m0_0, .int .i64 m0_1] ⟨false, 0⟩, AObj.cells [.int .i64 m1_0, .int .i64 m1_1] ⟨false, 1⟩, AObj.cells [.int .i64 m2_0, .int .i64 m2_1, .int .i64 m2_2] ⟨false, 1⟩] : AMem))))))))))
                  else (Option.bind (L.call 21 [.agg #[.int .i64 m1_0, .int .i64 m1_1], .int .i64 (IntKind.wrap .i64 ((Int.tmod (IntKind.wrap .i64 x2) m0_0) + 1))] []) fun r_52 =>
                    (Option.bind (intOf? .i64 (some r_52.1)) fun x_53 =>
                    (if (x_53 != x_2) = true
                    then (Option.bind (L.call 20 [.agg #[.int .i64 m1_0, .int .i64 m1_1], .int .i64 (Int.tmod (IntKind.wrap .i64 x2) m0_0), .int .i64 2] []) fun r_54 =>
                      (Option.bind (intOf? .i64 (some r_54.1)) fun x_55 =>
                      (Option.bind (L.call 22 [.agg #[.int .i64 m1_0, .int .i64 m1_1], .int .i64 x_55] []) fun r_56 =>
                      (Option.bind (aggOf? 3 r_56.1) fun cs_57 =>
                      (Option.bind (intOf? .i64 (cs_57[0]?)) fun x_58 =>
                      (Option.bind (intOf? .i64 (cs_57[1]?)) fun x_59 =>
                      (Option.bind (intOf? .i64 (cs_57[2]?)) fun x_60 =>
                      (if ((x_58 == 4) && ((x_59 == (Int.tmod (IntKind.wrap .i64 x2) m0_0)) && (x_60 == 2))) = true
                      then (Option.bind (L.call 13 [] []) fun r_61 =>
                        (Option.bind (boolOf? (some r_61.1)) fun q_62 =>
                        some (.bool q_62, ([AObj.cells [.int .i64 m0_0, .int .i64 m0_1] ⟨false, 0⟩, AObj.cells [.int .i64 m1_0, .int .i64 m1_1] ⟨false, 1⟩, AObj.cells [.int .i64 m2_0, .int .i64 m2_1, .int .i64 m2_2] ⟨false, 1⟩] : AMem))))
                      else some (.bool false, ([AObj.cells [.int .i64 m0_0, .int .i64 m0_1] ⟨false, 0⟩, AObj.cells [.int .i64 m1_0, .int .i64 m1_1] ⟨false, 1⟩, AObj.cells [.int .i64 m2_0, .int .i64 m2_1, .int .i64 m2_2] ⟨false, 1⟩] : AMem))))))))))
                    else some (.bool false, ([AObj.cells [.int .i64 m0_0, .int .i64 m0_1] ⟨false, 0⟩, AObj.cells [.int .i64 m1_0, .int .i64 m1_1] ⟨false, 1⟩, AObj.cells [.int .i64 m2_0, .int .i64 m2_1, .int .i64 m2_2] ⟨false, 1⟩] : AMem)))))))
              else some (.bool false, ([AObj.cells [.int .i64 m0_0, .int .i64 m0_1] ⟨false, 0⟩, AObj.cells [.int .i64 m1_0, .int .i64 m1_1] ⟨false, 1⟩, AObj.cells [.int .i64 m2_0, .int .i64 m2_1, .int .i64 m2_2] ⟨false, 1⟩] : AMem))))))
          else some (.bool false, ([AObj.cells [.int .i64 m0_0, .int .i64 m0_1] ⟨false, 0⟩, AObj.cells [.int .i64 m1_0, .int .i64 m1_1] ⟨false, 1⟩, AObj.cells [.int .i64 m2_0, .int .i64 m2_1, .int .i64 m2_2] ⟨false, 1⟩] : AMem)))
        else some (.bool false, ([AObj.cells [.int .i64 m0_0, .int .i64 m0_1] ⟨false, 0⟩, AObj.cells [.int .i64 m1_0, .int .i64 m1_1] ⟨false, 1⟩, AObj.cells [.int .i64 m2_0, .int .i64 m2_1, .int .i64 m2_2] ⟨false, 1⟩] : AMem)))
      else some (.bool false, ([AObj.cells [.int .i64 m0_0, .int .i64 m0_1] ⟨false, 0⟩, AObj.cells [.int .i64 m1_0, .int .i64 m1_1] ⟨false, 1⟩, AObj.cells [.int .i64 m2_0, .int .i64 m2_1, .int .i64 m2_2] ⟨false, 1⟩] : AMem)))))) := by kernel_rfl
theorem QP4_51_eq (L : Rec) (P4_51 : Rec → Int → Int → Int → Int → Int → Int → Int → Int → Int → Int → Res) (hP4_51 : P4_51 = fun (L : Rec) (x2 : Int) (x9 : Int) (x11 : Int) (m0_0 : Int) (m0_1 : Int) (m1_0 : Int) (m1_1 : Int) (m2_0 : Int) (m2_1 : Int) (m2_2 : Int) => code L c4_51 (k4_51 L) (s4_51 x2 x9 x11 m0_0 m0_1 m1_0 m1_1 m2_0 m2_1 m2_2) ([AObj.cells [.int .i64 m0_0, .int .i64 m0_1] ⟨false, 0⟩, AObj.cells [.int .i64 m1_0, .int .i64 m1_1] ⟨false, 1⟩, AObj.cells [.int .i64 m2_0, .int .i64 m2_1, .int .i64 m2_2] ⟨false, 1⟩] : AMem)) (x2 : Int) (x9 : Int) (x11 : Int) (m0_0 : Int) (m0_1 : Int) (m1_0 : Int) (m1_1 : Int) (m2_0 : Int) (m2_1 : Int) (m2_2 : Int) : P4_51 L x2 x9 x11 m0_0 m0_1 m1_0 m1_1 m2_0 m2_1 m2_2 =
  (if m0_0 = 0
    then none
    else (Option.bind (L.call 21 [.agg #[.int .i64 m1_0, .int .i64 m1_1], .int .i64 (Int.tmod (IntKind.wrap .i64 x2) m0_0)] []) fun r_1 =>
      (Option.bind (intOf? .i64 (some r_1.1)) fun x_2 =>
      (if (x11 == x9) = true
      then (if (decide (x_2 ≥ 0)) = true
        then (if (decide (x_2 < m0_1)) = true
          then (if (decide ((IntKind.wrap .i64 ((Int.tmod (IntKind.wrap .i64 x2) m0_0) + m0_1)) ≥ m0_0)) = true
            then (if (decide ((IntKind.wrap .i64 ((Int.tmod (IntKind.wrap .i64 x2) m0_0) + 1)) ≥ m0_0)) = true
              then (Option.bind (L.call 20 [.agg #[.int .i64 m1_0, .int .i64 m1_1], .int .i64 (Int.tmod (IntKind.wrap .i64 x2) m0_0), .int .i64 2] []) fun r_3 =>
                (Option.bind (intOf? .i64 (some r_3.1)) fun x_4 =>
                (Option.bind (L.call 22 [.agg #[.int .i64 m1_0, .int .i64 m1_1], .int .i64 x_4] []) fun r_5 =>
                (Option.bind (aggOf? 3 r_5.1) fun cs_6 =>
                (Option.bind (intOf? .i64 (cs_6[0]?)) fun x_7 =>
                (Option.bind (intOf? .i64 (cs_6[1]?)) fun x_8 =>
                (Option.bind (intOf? .i64 (cs_6[2]?)) fun x_9 =>
                (if ((x_7 == 4) && ((x_8 == (Int.tmod (IntKind.wrap .i64 x2) m0_0)) && (x_9 == 2))) = true
                then (Option.bind (L.call 13 [] []) fun r_10 =>
                  (Option.bind (boolOf? (some r_10.1)) fun q_11 =>
                  some (.bool q_11, ([AObj.cells [.int .i64 m0_0, .int .i64 m0_1] ⟨false, 0⟩, AObj.cells [.int .i64 m1_0, .int .i64 m1_1] ⟨false, 1⟩, AObj.cells [.int .i64 m2_0, .int .i64 m2_1, .int .i64 m2_2] ⟨false, 1⟩] : AMem))))
                else some (.bool false, ([AObj.cells [.int .i64 m0_0, .int .i64 m0_1] ⟨false, 0⟩, AObj.cells [.int .i64 m1_0, .int .i64 m1_1] ⟨false, 1⟩, AObj.cells [.int .i64 m2_0, .int .i64 m2_1, .int .i64 m2_2] ⟨false, 1⟩] : AMem))))))))))
              else (if (m0_1 == 1) = true
                then (Option.bind (L.call 20 [.agg #[.int .i64 m1_0, .int .i64 m1_1], .int .i64 (Int.tmod (IntKind.wrap .i64 x2) m0_0), .int .i64 2] []) fun r_12 =>
                  (Option.bind (intOf? .i64 (some r_12.1)) fun x_13 =>
                  (Option.bind (L.call 22 [.agg #[.int .i64 m1_0, .int .i64 m1_1], .int .i64 x_13] []) fun r_14 =>
                  (Option.bind (aggOf? 3 r_14.1) fun cs_15 =>
                  (Option.bind (intOf? .i64 (cs_15[0]?)) fun x_16 =>
                  (Option.bind (intOf? .i64 (cs_15[1]?)) fun x_17 =>
                  (Option.bind (intOf? .i64 (cs_15[2]?)) fun x_18 =>
                  (if ((x_16 == 4) && ((x_17 == (Int.tmod (IntKind.wrap .i64 x2) m0_0)) && (x_18 == 2))) = true
                  then (Option.bind (L.call 13 [] []) fun r_19 =>
                    (Option.bind (boolOf? (some r_19.1)) fun q_20 =>
                    some (.bool q_20, ([AObj.cells [.int .i64 m0_0, .int .i64 m0_1] ⟨false, 0⟩, AObj.cells [.int .i64 m1_0, .int .i64 m1_1] ⟨false, 1⟩, AObj.cells [.int .i64 m2_0, .int .i64 m2_1, .int .i64 m2_2] ⟨false, 1⟩] : AMem))))
                  else some (.bool false, ([AObj.cells [.int .i64 m0_0, .int .i64 m0_1] ⟨false, 0⟩, AObj.cells [.int .i64 m1_0, .int .i64 m1_1] ⟨false, 1⟩, AObj.cells [.int .i64 m2_0, .int .i64 m2_1, .int .i64 m2_2] ⟨false, 1⟩] : AMem))))))))))
                else (Option.bind (L.call 21 [.agg #[.int .i64 m1_0, .int .i64 m1_1], .int .i64 (IntKind.wrap .i64 ((Int.tmod (IntKind.wrap .i64 x2) m0_0) + 1))] []) fun r_21 =>
                  (Option.bind (intOf? .i64 (some r_21.1)) fun x_22 =>
                  (if (x_22 != x_2) = true
                  then (Option.bind (L.call 20 [.agg #[.int .i64 m1_0, .int .i64 m1_1], .int .i64 (Int.tmod (IntKind.wrap .i64 x2) m0_0), .int .i64 2] []) fun r_23 =>
                    (Option.bind (intOf? .i64 (some r_23.1)) fun x_24 =>
                    (Option.bind (L.call 22 [.agg #[.int .i64 m1_0, .int .i64 m1_1], .int .i64 x_24] []) fun r_25 =>
                    (Option.bind (aggOf? 3 r_25.1) fun cs_26 =>
                    (Option.bind (intOf? .i64 (cs_26[0]?)) fun x_27 =>
                    (Option.bind (intOf? .i64 (cs_26[1]?)) fun x_28 =>
                    (Option.bind (intOf? .i64 (cs_26[2]?)) fun x_29 =>
                    (if ((x_27 == 4) && ((x_28 == (Int.tmod (IntKind.wrap .i64 x2) m0_0)) && (x_29 == 2))) = true
                    then (Option.bind (L.call 13 [] []) fun r_30 =>
                      (Option.bind (boolOf? (some r_30.1)) fun q_31 =>
                      some (.bool q_31, ([AObj.cells [.int .i64 m0_0, .int .i64 m0_1] ⟨false, 0⟩, AObj.cells [.int .i64 m1_0, .int .i64 m1_1] ⟨false, 1⟩, AObj.cells [.int .i64 m2_0, .int .i64 m2_1, .int .i64 m2_2] ⟨false, 1⟩] : AMem))))
                    else some (.bool false, ([AObj.cells [.int .i64 m0_0, .int .i64 m0_1] ⟨false, 0⟩, AObj.cells [.int .i64 m1_0, .int .i64 m1_1] ⟨false, 1⟩, AObj.cells [.int .i64 m2_0, .int .i64 m2_1, .int .i64 m2_2] ⟨false, 1⟩] : AMem))))))))))
                  else some (.bool false, ([AObj.cells [.int .i64 m0_0, .int .i64 m0_1] ⟨false, 0⟩, AObj.cells [.int .i64 m1_0, .int .i64 m1_1] ⟨false, 1⟩, AObj.cells [.int .i64 m2_0, .int .i64 m2_1, .int .i64 m2_2] ⟨false, 1⟩] : AMem)))))))
            else (Option.bind (L.call 21 [.agg #[.int .i64 m1_0, .int .i64 m1_1], .int .i64 (IntKind.wrap .i64 ((Int.tmod (IntKind.wrap .i64 x2) m0_0) + m0_1))] []) fun r_32 =>
              (Option.bind (intOf? .i64 (some r_32.1)) fun x_33 =>
              (if (x_33 == x_2) = true
              then (if (decide ((IntKind.wrap .i64 ((Int.tmod (IntKind.wrap .i64 x2) m0_0) + 1)) ≥ m0_0)) = true
                then (Option.bind (L.call 20 [.agg #[.int .i64 m1_0, .int .i64 m1_1], .int .i64 (Int.tmod (IntKind.wrap .i64 x2) m0_0), .int .i64 2] []) fun r_34 =>
                  (Option.bind (intOf? .i64 (some r_34.1)) fun x_35 =>
                  (Option.bind (L.call 22 [.agg #[.int .i64 m1_0, .int .i64 m1_1], .int .i64 x_35] []) fun r_36 =>
                  (Option.bind (aggOf? 3 r_36.1) fun cs_37 =>
                  (Option.bind (intOf? .i64 (cs_37[0]?)) fun x_38 =>
                  (Option.bind (intOf? .i64 (cs_37[1]?)) fun x_39 =>
                  (Option.bind (intOf? .i64 (cs_37[2]?)) fun x_40 =>
                  (if ((x_38 == 4) && ((x_39 == (Int.tmod (IntKind.wrap .i64 x2) m0_0)) && (x_40 == 2))) = true
                  then (Option.bind (L.call 13 [] []) fun r_41 =>
                    (Option.bind (boolOf? (some r_41.1)) fun q_42 =>
                    some (.bool q_42, ([AObj.cells [.int .i64 m0_0, .int .i64 m0_1] ⟨false, 0⟩, AObj.cells [.int .i64 m1_0, .int .i64 m1_1] ⟨false, 1⟩, AObj.cells [.int .i64 m2_0, .int .i64 m2_1, .int .i64 m2_2] ⟨false, 1⟩] : AMem))))
                  else some (.bool false, ([AObj.cells [.int .i64 m0_0, .int .i64 m0_1] ⟨false, 0⟩, AObj.cells [.int .i64 m1_0, .int .i64 m1_1] ⟨false, 1⟩, AObj.cells [.int .i64 m2_0, .int .i64 m2_1, .int .i64 m2_2] ⟨false, 1⟩] : AMem))))))))))
                else (if (m0_1 == 1) = true
                  then (Option.bind (L.call 20 [.agg #[.int .i64 m1_0, .int .i64 m1_1], .int .i64 (Int.tmod (IntKind.wrap .i64 x2) m0_0), .int .i64 2] []) fun r_43 =>
                    (Option.bind (intOf? .i64 (some r_43.1)) fun x_44 =>
                    (Option.bind (L.call 22 [.agg #[.int .i64 m1_0, .int .i64 m1_1], .int .i64 x_44] []) fun r_45 =>
                    (Option.bind (aggOf? 3 r_45.1) fun cs_46 =>
                    (Option.bind (intOf? .i64 (cs_46[0]?)) fun x_47 =>
                    (Option.bind (intOf? .i64 (cs_46[1]?)) fun x_48 =>
                    (Option.bind (intOf? .i64 (cs_46[2]?)) fun x_49 =>
                    (if ((x_47 == 4) && ((x_48 == (Int.tmod (IntKind.wrap .i64 x2) m0_0)) && (x_49 == 2))) = true
                    then (Option.bind (L.call 13 [] []) fun r_50 =>
                      (Option.bind (boolOf? (some r_50.1)) fun q_51 =>
                      some (.bool q_51, ([AObj.cells [.int .i64 m0_0, .int .i64 m0_1] ⟨false, 0⟩, AObj.cells [.int .i64 m1_0, .int .i64 m1_1] ⟨false, 1⟩, AObj.cells [.int .i64 m2_0, .int .i64 m2_1, .int .i64 m2_2] ⟨false, 1⟩] : AMem))))
                    else some (.bool false, ([AObj.cells [.int .i64 m0_0, .int .i64 m0_1] ⟨false, 0⟩, AObj.cells [.int .i64 m1_0, .int .i64 m1_1] ⟨false, 1⟩, AObj.cells [.int .i64 m2_0, .int .i64 m2_1, .int .i64 m2_2] ⟨false, 1⟩] : AMem))))))))))
                  else (Option.bind (L.call 21 [.agg #[.int .i64 m1_0, .int .i64 m1_1], .int .i64 (IntKind.wrap .i64 ((Int.tmod (IntKind.wrap .i64 x2) m0_0) + 1))] []) fun r_52 =>
                    (Option.bind (intOf? .i64 (some r_52.1)) fun x_53 =>
                    (if (x_53 != x_2) = true
                    then (Option.bind (L.call 20 [.agg #[.int .i64 m1_0, .int .i64 m1_1], .int .i64 (Int.tmod (IntKind.wrap .i64 x2) m0_0), .int .i64 2] []) fun r_54 =>
                      (Option.bind (intOf? .i64 (some r_54.1)) fun x_55 =>
                      (Option.bind (L.call 22 [.agg #[.int .i64 m1_0, .int .i64 m1_1], .int .i64 x_55] []) fun r_56 =>
                      (Option.bind (aggOf? 3 r_56.1) fun cs_57 =>
                      (Option.bind (intOf? .i64 (cs_57[0]?)) fun x_58 =>
                      (Option.bind (intOf? .i64 (cs_57[1]?)) fun x_59 =>
                      (Option.bind (intOf? .i64 (cs_57[2]?)) fun x_60 =>
                      (if ((x_58 == 4) && ((x_59 == (Int.tmod (IntKind.wrap .i64 x2) m0_0)) && (x_60 == 2))) = true
                      then (Option.bind (L.call 13 [] []) fun r_61 =>
                        (Option.bind (boolOf? (some r_61.1)) fun q_62 =>
                        some (.bool q_62, ([AObj.cells [.int .i64 m0_0, .int .i64 m0_1] ⟨false, 0⟩, AObj.cells [.int .i64 m1_0, .int .i64 m1_1] ⟨false, 1⟩, AObj.cells [.int .i64 m2_0, .int .i64 m2_1, .int .i64 m2_2] ⟨false, 1⟩] : AMem))))
                      else some (.bool false, ([AObj.cells [.int .i64 m0_0, .int .i64 m0_1] ⟨false, 0⟩, AObj.cells [.int .i64 m1_0, .int .i64 m1_1] ⟨false, 1⟩, AObj.cells [.int .i64 m2_0, .int .i64 m2_1, .int .i64 m2_2] ⟨false, 1⟩] : AMem))))))))))
                    else some (.bool false, ([AObj.cells [.int .i64 m0_0, .int .i64 m0_1] ⟨false, 0⟩, AObj.cells [.int .i64 m1_0, .int .i64 m1_1] ⟨false, 1⟩, AObj.cells [.int .i64 m2_0, .int .i64 m2_1, .int .i64 m2_2] ⟨false, 1⟩] : AMem)))))))
              else some (.bool false, ([AObj.cells [.int .i64 m0_0, .int .i64 m0_1] ⟨false, 0⟩, AObj.cells [.int .i64 m1_0, .int .i64 m1_1] ⟨false, 1⟩, AObj.cells [.int .i64 m2_0, .int .i64 m2_1, .int .i64 m2_2] ⟨false, 1⟩] : AMem))))))
          else some (.bool false, ([AObj.cells [.int .i64 m0_0, .int .i64 m0_1] ⟨false, 0⟩, AObj.cells [.int .i64 m1_0, .int .i64 m1_1] ⟨false, 1⟩, AObj.cells [.int .i64 m2_0, .int .i64 m2_1, .int .i64 m2_2] ⟨false, 1⟩] : AMem)))
        else some (.bool false, ([AObj.cells [.int .i64 m0_0, .int .i64 m0_1] ⟨false, 0⟩, AObj.cells [.int .i64 m1_0, .int .i64 m1_1] ⟨false, 1⟩, AObj.cells [.int .i64 m2_0, .int .i64 m2_1, .int .i64 m2_2] ⟨false, 1⟩] : AMem)))
      else some (.bool false, ([AObj.cells [.int .i64 m0_0, .int .i64 m0_1] ⟨false, 0⟩, AObj.cells [.int .i64 m1_0, .int .i64 m1_1] ⟨false, 1⟩, AObj.cells [.int .i64 m2_0, .int .i64 m2_1, .int .i64 m2_2] ⟨false, 1⟩] : AMem)))))) := by
  subst hP4_51; exact Eq.mp (by kernel_rfl) (G4_51 L  x2 x9 x11 m0_0 m0_1 m1_0 m1_1 m2_0 m2_1 m2_2)
theorem P4_51_eq (L : Rec) (x2 : Int) (x9 : Int) (x11 : Int) (m0_0 : Int) (m0_1 : Int) (m1_0 : Int) (m1_1 : Int) (m2_0 : Int) (m2_1 : Int) (m2_2 : Int) : P4_51 L x2 x9 x11 m0_0 m0_1 m1_0 m1_1 m2_0 m2_1 m2_2 =
  (if m0_0 = 0
    then none
    else (Option.bind (L.call 21 [.agg #[.int .i64 m1_0, .int .i64 m1_1], .int .i64 (Int.tmod (IntKind.wrap .i64 x2) m0_0)] []) fun r_1 =>
      (Option.bind (intOf? .i64 (some r_1.1)) fun x_2 =>
      (if (x11 == x9) = true
      then (if (decide (x_2 ≥ 0)) = true
        then (if (decide (x_2 < m0_1)) = true
          then (if (decide ((IntKind.wrap .i64 ((Int.tmod (IntKind.wrap .i64 x2) m0_0) + m0_1)) ≥ m0_0)) = true
            then (if (decide ((IntKind.wrap .i64 ((Int.tmod (IntKind.wrap .i64 x2) m0_0) + 1)) ≥ m0_0)) = true
              then (Option.bind (L.call 20 [.agg #[.int .i64 m1_0, .int .i64 m1_1], .int .i64 (Int.tmod (IntKind.wrap .i64 x2) m0_0), .int .i64 2] []) fun r_3 =>
                (Option.bind (intOf? .i64 (some r_3.1)) fun x_4 =>
                (Option.bind (L.call 22 [.agg #[.int .i64 m1_0, .int .i64 m1_1], .int .i64 x_4] []) fun r_5 =>
                (Option.bind (aggOf? 3 r_5.1) fun cs_6 =>
                (Option.bind (intOf? .i64 (cs_6[0]?)) fun x_7 =>
                (Option.bind (intOf? .i64 (cs_6[1]?)) fun x_8 =>
                (Option.bind (intOf? .i64 (cs_6[2]?)) fun x_9 =>
                (if ((x_7 == 4) && ((x_8 == (Int.tmod (IntKind.wrap .i64 x2) m0_0)) && (x_9 == 2))) = true
                then (Option.bind (L.call 13 [] []) fun r_10 =>
                  (Option.bind (boolOf? (some r_10.1)) fun q_11 =>
                  some (.bool q_11, ([AObj.cells [.int .i64 m0_0, .int .i64 m0_1] ⟨false, 0⟩, AObj.cells [.int .i64 m1_0, .int .i64 m1_1] ⟨false, 1⟩, AObj.cells [.int .i64 m2_0, .int .i64 m2_1, .int .i64 m2_2] ⟨false, 1⟩] : AMem))))
                else some (.bool false, ([AObj.cells [.int .i64 m0_0, .int .i64 m0_1] ⟨false, 0⟩, AObj.cells [.int .i64 m1_0, .int .i64 m1_1] ⟨false, 1⟩, AObj.cells [.int .i64 m2_0, .int .i64 m2_1, .int .i64 m2_2] ⟨false, 1⟩] : AMem))))))))))
              else (if (m0_1 == 1) = true
                then (Option.bind (L.call 20 [.agg #[.int .i64 m1_0, .int .i64 m1_1], .int .i64 (Int.tmod (IntKind.wrap .i64 x2) m0_0), .int .i64 2] []) fun r_12 =>
                  (Option.bind (intOf? .i64 (some r_12.1)) fun x_13 =>
                  (Option.bind (L.call 22 [.agg #[.int .i64 m1_0, .int .i64 m1_1], .int .i64 x_13] []) fun r_14 =>
                  (Option.bind (aggOf? 3 r_14.1) fun cs_15 =>
                  (Option.bind (intOf? .i64 (cs_15[0]?)) fun x_16 =>
                  (Option.bind (intOf? .i64 (cs_15[1]?)) fun x_17 =>
                  (Option.bind (intOf? .i64 (cs_15[2]?)) fun x_18 =>
                  (if ((x_16 == 4) && ((x_17 == (Int.tmod (IntKind.wrap .i64 x2) m0_0)) && (x_18 == 2))) = true
                  then (Option.bind (L.call 13 [] []) fun r_19 =>
                    (Option.bind (boolOf? (some r_19.1)) fun q_20 =>
                    some (.bool q_20, ([AObj.cells [.int .i64 m0_0, .int .i64 m0_1] ⟨false, 0⟩, AObj.cells [.int .i64 m1_0, .int .i64 m1_1] ⟨false, 1⟩, AObj.cells [.int .i64 m2_0, .int .i64 m2_1, .int .i64 m2_2] ⟨false, 1⟩] : AMem))))
                  else some (.bool false, ([AObj.cells [.int .i64 m0_0, .int .i64 m0_1] ⟨false, 0⟩, AObj.cells [.int .i64 m1_0, .int .i64 m1_1] ⟨false, 1⟩, AObj.cells [.int .i64 m2_0, .int .i64 m2_1, .int .i64 m2_2] ⟨false, 1⟩] : AMem))))))))))
                else (Option.bind (L.call 21 [.agg #[.int .i64 m1_0, .int .i64 m1_1], .int .i64 (IntKind.wrap .i64 ((Int.tmod (IntKind.wrap .i64 x2) m0_0) + 1))] []) fun r_21 =>
                  (Option.bind (intOf? .i64 (some r_21.1)) fun x_22 =>
                  (if (x_22 != x_2) = true
                  then (Option.bind (L.call 20 [.agg #[.int .i64 m1_0, .int .i64 m1_1], .int .i64 (Int.tmod (IntKind.wrap .i64 x2) m0_0), .int .i64 2] []) fun r_23 =>
                    (Option.bind (intOf? .i64 (some r_23.1)) fun x_24 =>
                    (Option.bind (L.call 22 [.agg #[.int .i64 m1_0, .int .i64 m1_1], .int .i64 x_24] []) fun r_25 =>
                    (Option.bind (aggOf? 3 r_25.1) fun cs_26 =>
                    (Option.bind (intOf? .i64 (cs_26[0]?)) fun x_27 =>
                    (Option.bind (intOf? .i64 (cs_26[1]?)) fun x_28 =>
                    (Option.bind (intOf? .i64 (cs_26[2]?)) fun x_29 =>
                    (if ((x_27 == 4) && ((x_28 == (Int.tmod (IntKind.wrap .i64 x2) m0_0)) && (x_29 == 2))) = true
                    then (Option.bind (L.call 13 [] []) fun r_30 =>
                      (Option.bind (boolOf? (some r_30.1)) fun q_31 =>
                      some (.bool q_31, ([AObj.cells [.int .i64 m0_0, .int .i64 m0_1] ⟨false, 0⟩, AObj.cells [.int .i64 m1_0, .int .i64 m1_1] ⟨false, 1⟩, AObj.cells [.int .i64 m2_0, .int .i64 m2_1, .int .i64 m2_2] ⟨false, 1⟩] : AMem))))
                    else some (.bool false, ([AObj.cells [.int .i64 m0_0, .int .i64 m0_1] ⟨false, 0⟩, AObj.cells [.int .i64 m1_0, .int .i64 m1_1] ⟨false, 1⟩, AObj.cells [.int .i64 m2_0, .int .i64 m2_1, .int .i64 m2_2] ⟨false, 1⟩] : AMem))))))))))
                  else some (.bool false, ([AObj.cells [.int .i64 m0_0, .int .i64 m0_1] ⟨false, 0⟩, AObj.cells [.int .i64 m1_0, .int .i64 m1_1] ⟨false, 1⟩, AObj.cells [.int .i64 m2_0, .int .i64 m2_1, .int .i64 m2_2] ⟨false, 1⟩] : AMem)))))))
            else (Option.bind (L.call 21 [.agg #[.int .i64 m1_0, .int .i64 m1_1], .int .i64 (IntKind.wrap .i64 ((Int.tmod (IntKind.wrap .i64 x2) m0_0) + m0_1))] []) fun r_32 =>
              (Option.bind (intOf? .i64 (some r_32.1)) fun x_33 =>
              (if (x_33 == x_2) = true
              then (if (decide ((IntKind.wrap .i64 ((Int.tmod (IntKind.wrap .i64 x2) m0_0) + 1)) ≥ m0_0)) = true
                then (Option.bind (L.call 20 [.agg #[.int .i64 m1_0, .int .i64 m1_1], .int .i64 (Int.tmod (IntKind.wrap .i64 x2) m0_0), .int .i64 2] []) fun r_34 =>
                  (Option.bind (intOf? .i64 (some r_34.1)) fun x_35 =>
                  (Option.bind (L.call 22 [.agg #[.int .i64 m1_0, .int .i64 m1_1], .int .i64 x_35] []) fun r_36 =>
                  (Option.bind (aggOf? 3 r_36.1) fun cs_37 =>
                  (Option.bind (intOf? .i64 (cs_37[0]?)) fun x_38 =>
                  (Option.bind (intOf? .i64 (cs_37[1]?)) fun x_39 =>
                  (Option.bind (intOf? .i64 (cs_37[2]?)) fun x_40 =>
                  (if ((x_38 == 4) && ((x_39 == (Int.tmod (IntKind.wrap .i64 x2) m0_0)) && (x_40 == 2))) = true
                  then (Option.bind (L.call 13 [] []) fun r_41 =>
                    (Option.bind (boolOf? (some r_41.1)) fun q_42 =>
                    some (.bool q_42, ([AObj.cells [.int .i64 m0_0, .int .i64 m0_1] ⟨false, 0⟩, AObj.cells [.int .i64 m1_0, .int .i64 m1_1] ⟨false, 1⟩, AObj.cells [.int .i64 m2_0, .int .i64 m2_1, .int .i64 m2_2] ⟨false, 1⟩] : AMem))))
                  else some (.bool false, ([AObj.cells [.int .i64 m0_0, .int .i64 m0_1] ⟨false, 0⟩, AObj.cells [.int .i64 m1_0, .int .i64 m1_1] ⟨false, 1⟩, AObj.cells [.int .i64 m2_0, .int .i64 m2_1, .int .i64 m2_2] ⟨false, 1⟩] : AMem))))))))))
                else (if (m0_1 == 1) = true
                  then (Option.bind (L.call 20 [.agg #[.int .i64 m1_0, .int .i64 m1_1], .int .i64 (Int.tmod (IntKind.wrap .i64 x2) m0_0), .int .i64 2] []) fun r_43 =>
                    (Option.bind (intOf? .i64 (some r_43.1)) fun x_44 =>
                    (Option.bind (L.call 22 [.agg #[.int .i64 m1_0, .int .i64 m1_1], .int .i64 x_44] []) fun r_45 =>
                    (Option.bind (aggOf? 3 r_45.1) fun cs_46 =>
                    (Option.bind (intOf? .i64 (cs_46[0]?)) fun x_47 =>
                    (Option.bind (intOf? .i64 (cs_46[1]?)) fun x_48 =>
                    (Option.bind (intOf? .i64 (cs_46[2]?)) fun x_49 =>
                    (if ((x_47 == 4) && ((x_48 == (Int.tmod (IntKind.wrap .i64 x2) m0_0)) && (x_49 == 2))) = true
                    then (Option.bind (L.call 13 [] []) fun r_50 =>
                      (Option.bind (boolOf? (some r_50.1)) fun q_51 =>
                      some (.bool q_51, ([AObj.cells [.int .i64 m0_0, .int .i64 m0_1] ⟨false, 0⟩, AObj.cells [.int .i64 m1_0, .int .i64 m1_1] ⟨false, 1⟩, AObj.cells [.int .i64 m2_0, .int .i64 m2_1, .int .i64 m2_2] ⟨false, 1⟩] : AMem))))
                    else some (.bool false, ([AObj.cells [.int .i64 m0_0, .int .i64 m0_1] ⟨false, 0⟩, AObj.cells [.int .i64 m1_0, .int .i64 m1_1] ⟨false, 1⟩, AObj.cells [.int .i64 m2_0, .int .i64 m2_1, .int .i64 m2_2] ⟨false, 1⟩] : AMem))))))))))
                  else (Option.bind (L.call 21 [.agg #[.int .i64 m1_0, .int .i64 m1_1], .int .i64 (IntKind.wrap .i64 ((Int.tmod (IntKind.wrap .i64 x2) m0_0) + 1))] []) fun r_52 =>
                    (Option.bind (intOf? .i64 (some r_52.1)) fun x_53 =>
                    (if (x_53 != x_2) = true
                    then (Option.bind (L.call 20 [.agg #[.int .i64 m1_0, .int .i64 m1_1], .int .i64 (Int.tmod (IntKind.wrap .i64 x2) m0_0), .int .i64 2] []) fun r_54 =>
                      (Option.bind (intOf? .i64 (some r_54.1)) fun x_55 =>
                      (Option.bind (L.call 22 [.agg #[.int .i64 m1_0, .int .i64 m1_1], .int .i64 x_55] []) fun r_56 =>
                      (Option.bind (aggOf? 3 r_56.1) fun cs_57 =>
                      (Option.bind (intOf? .i64 (cs_57[0]?)) fun x_58 =>
                      (Option.bind (intOf? .i64 (cs_57[1]?)) fun x_59 =>
                      (Option.bind (intOf? .i64 (cs_57[2]?)) fun x_60 =>
                      (if ((x_58 == 4) && ((x_59 == (Int.tmod (IntKind.wrap .i64 x2) m0_0)) && (x_60 == 2))) = true
                      then (Option.bind (L.call 13 [] []) fun r_61 =>
                        (Option.bind (boolOf? (some r_61.1)) fun q_62 =>
                        some (.bool q_62, ([AObj.cells [.int .i64 m0_0, .int .i64 m0_1] ⟨false, 0⟩, AObj.cells [.int .i64 m1_0, .int .i64 m1_1] ⟨false, 1⟩, AObj.cells [.int .i64 m2_0, .int .i64 m2_1, .int .i64 m2_2] ⟨false, 1⟩] : AMem))))
                      else some (.bool false, ([AObj.cells [.int .i64 m0_0, .int .i64 m0_1] ⟨false, 0⟩, AObj.cells [.int .i64 m1_0, .int .i64 m1_1] ⟨false, 1⟩, AObj.cells [.int .i64 m2_0, .int .i64 m2_1, .int .i64 m2_2] ⟨false, 1⟩] : AMem))))))))))
                    else some (.bool false, ([AObj.cells [.int .i64 m0_0, .int .i64 m0_1] ⟨false, 0⟩, AObj.cells [.int .i64 m1_0, .int .i64 m1_1] ⟨false, 1⟩, AObj.cells [.int .i64 m2_0, .int .i64 m2_1, .int .i64 m2_2] ⟨false, 1⟩] : AMem)))))))
              else some (.bool false, ([AObj.cells [.int .i64 m0_0, .int .i64 m0_1] ⟨false, 0⟩, AObj.cells [.int .i64 m1_0, .int .i64 m1_1] ⟨false, 1⟩, AObj.cells [.int .i64 m2_0, .int .i64 m2_1, .int .i64 m2_2] ⟨false, 1⟩] : AMem))))))
          else some (.bool false, ([AObj.cells [.int .i64 m0_0, .int .i64 m0_1] ⟨false, 0⟩, AObj.cells [.int .i64 m1_0, .int .i64 m1_1] ⟨false, 1⟩, AObj.cells [.int .i64 m2_0, .int .i64 m2_1, .int .i64 m2_2] ⟨false, 1⟩] : AMem)))
        else some (.bool false, ([AObj.cells [.int .i64 m0_0, .int .i64 m0_1] ⟨false, 0⟩, AObj.cells [.int .i64 m1_0, .int .i64 m1_1] ⟨false, 1⟩, AObj.cells [.int .i64 m2_0, .int .i64 m2_1, .int .i64 m2_2] ⟨false, 1⟩] : AMem)))
      else some (.bool false, ([AObj.cells [.int .i64 m0_0, .int .i64 m0_1] ⟨false, 0⟩, AObj.cells [.int .i64 m1_0, .int .i64 m1_1] ⟨false, 1⟩, AObj.cells [.int .i64 m2_0, .int .i64 m2_1, .int .i64 m2_2] ⟨false, 1⟩] : AMem)))))) := QP4_51_eq L P4_51 (Classical.choose_spec XP4_51) x2 x9 x11 m0_0 m0_1 m1_0 m1_1 m2_0 m2_1 m2_2
theorem GE4 (L : Rec) (c4_51 : ACode) (x0_0 : Int) (x0_1 : Int) (x1 : Int) (x2 : Int) : enterF L ⟨128, [.tmp 6], .seq (.ops o4_1) (.seq (.seq (.ops o4_4) (.cond (.tmp 16) (.seq (.ops o4_7) (.ret)) (.skip))) (.seq (.ops o4_11) (.seq (.ops o4_13) (.seq (.seq (.ops o4_16) (.cond (.tmp 23) (.seq (.ops o4_19) (.ret)) (.skip))) (.seq (.ops o4_23) (.seq (.ops o4_25) (.seq (.ops o4_27) (.seq (.seq (.ops o4_30) (.block 0 (.seq (.ops o4_33) (.cond (.tmp 33) (.skip) (.seq (.ops o4_37) (.cond (.tmp 35) (.ops o4_39) (.seq (.ops o4_41) (.cond (.tmp 41) (.ops o4_43) (.seq (.ops o4_45) (.cond (.tmp 47) (.ops o4_47) (.seq (.ops o4_49) (.ret)))))))))))) (.clear [0, 1, 4, 5, 6, 8, 10, 12, 13, 14, 15, 16, 17, 18, 19, 20, 21, 22, 23, 24, 25, 26, 27, 28, 29, 30, 31, 32, 33, 34, 35, 36, 37, 38, 39, 40, 41, 42, 43, 44, 45, 46, 47, 48, 49, 50, 51, 52, 53, 54, 55, 56, 57, 58, 59, 60, 61, 62, 63, 64, 65, 66, 67, 68, 69, 70, 71, 72, 73, 74, 75, 76, 77, 78, 79, 80, 81, 82, 83, 84, 85, 86, 87, 88, 89, 90, 91, 92, 93, 94, 95, 96, 97, 98, 99, 100, 101, 102, 103, 104, 105, 106, 107, 108, 109, 110, 111, 112, 113, 114, 115, 116, 117, 118, 119, 120, 121, 122, 123, 124, 125, 126, 127] c4_51)))))))))⟩ [.agg #[.int .i64 x0_0, .int .i64 x0_1], .int .u32 x1, .int .u16 x2] [] =
  (Option.bind (L.call 12 [.agg #[.int .i64 x0_0, .int .i64 x0_1]] []) fun r_1 =>
    (Option.bind (boolOf? (some r_1.1)) fun q_2 =>
    (if (!q_2) = true
    then (Option.bind (L.call 13 [] []) fun r_3 =>
      (Option.bind (boolOf? (some r_3.1)) fun q_4 =>
      some (.bool q_4, ([AObj.cells [.int .i64 x0_0, .int .i64 x0_1] ⟨false, 0⟩] : AMem))))
    else (Option.bind (L.call 11 [.agg #[.int .i64 x0_0, .int .i64 x0_1]] []) fun r_5 =>
      (Option.bind (aggOf? 2 r_5.1) fun cs_6 =>
      (Option.bind (intOf? .i64 (cs_6[0]?)) fun x_7 =>
      (Option.bind (intOf? .i64 (cs_6[1]?)) fun x_8 =>
      (Option.bind (L.call 16 [.agg #[.int .i64 x_7, .int .i64 x_8]] []) fun r_9 =>
      (Option.bind (intOf? .i64 (some r_9.1)) fun x_10 =>
      (if (decide (x_10 < 6)) = true
      then some (.bool false, ([AObj.cells [.int .i64 x0_0, .int .i64 x0_1] ⟨false, 0⟩, AObj.cells [.int .i64 x_7, .int .i64 x_8] ⟨false, 1⟩] : AMem))
      else (if x_10 = 0
        then none
        else (Option.bind (L.call 22 [.agg #[.int .i64 x_7, .int .i64 x_8], .int .i64 (Int.tmod (IntKind.wrap .i64 x1) x_10)] []) fun r_11 =>
          (Option.bind (aggOf? 3 r_11.1) fun cs_12 =>
          (Option.bind (intOf? .i64 (cs_12[0]?)) fun x_13 =>
          (Option.bind (intOf? .i64 (cs_12[1]?)) fun x_14 =>
          (Option.bind (intOf? .i64 (cs_12[2]?)) fun x_15 =>
          (if (x_13 == 1) = true
          then code L c4_51 (retK [.tmp 6]) [junk, junk, .int .u16 x2, .pointer (some ⟨0, 0, none⟩), junk, junk, junk, .pointer (some ⟨1, 0, none⟩), junk, .int .i64 (Int.tmod (IntKind.wrap .i64 x1) x_10), junk, .int .i64 0, junk, junk, junk, junk, junk, junk, junk, junk, junk, junk, junk, junk, junk, junk, junk, junk, junk, junk, junk, junk, junk, junk, junk, junk, junk, junk, junk, junk, junk, junk, junk, junk, junk, junk, junk, junk, junk, junk, junk, junk, junk, junk, junk, junk, junk, junk, junk, junk, junk, junk, junk, junk, junk, junk, junk, junk, junk, junk, junk, junk, junk, junk, junk, junk, junk, junk, junk, junk, junk, junk, junk, junk, junk, junk, junk, junk, junk, junk, junk, junk, junk, junk, junk, junk, junk, junk, junk, junk, junk, junk, junk, junk, junk, junk, junk, junk, junk, junk, junk, junk, junk, junk, junk, junk, junk, junk, junk, junk, junk, junk, junk, junk, junk, junk, junk, junk] ([AObj.cells [.int .i64 x0_0, .int .i64 x0_1] ⟨false, 0⟩, AObj.cells [.int .i64 x_7, .int .i64 x_8] ⟨false, 1⟩, AObj.cells [.int .i64 x_13, .int .i64 x_14, .int .i64 x_15] ⟨false, 1⟩] : AMem)
          else (if (x_13 == 2) = true
            then (Option.bind (L.call 17 [.agg #[.int .i64 x_7, .int .i64 x_8], .int .i64 x_14] []) fun r_16 =>
              (Option.bind (intOf? .i64 (some r_16.1)) fun x_17 =>
              code L c4_51 (retK [.tmp 6]) [junk, junk, .int .u16 x2, .pointer (some ⟨0, 0, none⟩), junk, junk, junk, .pointer (some ⟨1, 0, none⟩), junk, .int .i64 (Int.tmod (IntKind.wrap .i64 x1) x_10), junk, .int .i64 x_17, junk, junk, junk, junk, junk, junk, junk, junk, junk, junk, junk, junk, junk, junk, junk, junk, junk, junk, junk, junk, junk, junk, junk, junk, junk, junk, junk, junk, junk, junk, junk, junk, junk, junk, junk, junk, junk, junk, junk, junk, junk, junk, junk, junk, junk, junk, junk, junk, junk, junk, junk, junk, junk, junk, junk, junk, junk, junk, junk, junk, junk, junk, junk, junk, junk, junk, junk, junk, junk, junk, junk, junk, junk, junk, junk, junk, junk, junk, junk, junk, junk, junk, junk, junk, junk, junk, junk, junk, junk, junk, junk, junk, junk, junk, junk, junk, junk, junk, junk, junk, junk, junk, junk, junk, junk, junk, junk, junk, junk, junk, junk, junk, junk, junk, junk, junk] ([AObj.cells [.int .i64 x0_0, .int .i64 x0_1] ⟨false, 0⟩, AObj.cells [.int .i64 x_7, .int .i64 x_8] ⟨false, 1⟩, AObj.cells [.int .i64 x_13, .int .i64 x_14, .int .i64 x_15] ⟨false, 1⟩] : AMem)))
            else (if (x_13 == 3) = true
              then (Option.bind (L.call 19 [.agg #[.int .i64 x_7, .int .i64 x_8], .int .i64 x_14] []) fun r_18 =>
                (Option.bind (intOf? .i64 (some r_18.1)) fun x_19 =>
                code L c4_51 (retK [.tmp 6]) [junk, junk, .int .u16 x2, .pointer (some ⟨0, 0, none⟩), junk, junk, junk, .pointer (some ⟨1, 0, none⟩), junk, .int .i64 (Int.tmod (IntKind.wrap .i64 x1) x_10), junk, .int .i64 x_19, junk, junk, junk, junk, junk, junk, junk, junk, junk, junk, junk, junk, junk, junk, junk, junk, junk, junk, junk, junk, junk, junk, junk, junk, junk, junk, junk, junk, junk, junk, junk, junk, junk, junk, junk, junk, junk, junk, junk, junk, junk, junk, junk, junk, junk, junk, junk, junk, junk, junk, junk, junk, junk, junk, junk, junk, junk, junk, junk, junk, junk, junk, junk, junk, junk, junk, junk, junk, junk, junk, junk, junk, junk, junk, junk, junk, junk, junk, junk, junk, junk, junk, junk, junk, junk, junk, junk, junk, junk, junk, junk, junk, junk, junk, junk, junk, junk, junk, junk, junk, junk, junk, junk, junk, junk, junk, junk, junk, junk, junk, junk, junk, junk, junk, junk, junk] ([AObj.cells [.int .i64 x0_0, .int .i64 x0_1] ⟨false, 0⟩, AObj.cells [.int .i64 x_7, .int .i64 x_8] ⟨false, 1⟩, AObj.cells [.int .i64 x_13, .int .i64 x_14, .int .i64 x_15] ⟨false, 1⟩] : AMem)))
              else (if (x_13 == 4) = true
                then (Option.bind (L.call 20 [.agg #[.int .i64 x_7, .int .i64 x_8], .int .i64 x_14, .int .i64 x_15] []) fun r_20 =>
                  (Option.bind (intOf? .i64 (some r_20.1)) fun x_21 =>
                  code L c4_51 (retK [.tmp 6]) [junk, junk, .int .u16 x2, .pointer (some ⟨0, 0, none⟩), junk, junk, junk, .pointer (some ⟨1, 0, none⟩), junk, .int .i64 (Int.tmod (IntKind.wrap .i64 x1) x_10), junk, .int .i64 x_21, junk, junk, junk, junk, junk, junk, junk, junk, junk, junk, junk, junk, junk, junk, junk, junk, junk, junk, junk, junk, junk, junk, junk, junk, junk, junk, junk, junk, junk, junk, junk, junk, junk, junk, junk, junk, junk, junk, junk, junk, junk, junk, junk, junk, junk, junk, junk, junk, junk, junk, junk, junk, junk, junk, junk, junk, junk, junk, junk, junk, junk, junk, junk, junk, junk, junk, junk, junk, junk, junk, junk, junk, junk, junk, junk, junk, junk, junk, junk, junk, junk, junk, junk, junk, junk, junk, junk, junk, junk, junk, junk, junk, junk, junk, junk, junk, junk, junk, junk, junk, junk, junk, junk, junk, junk, junk, junk, junk, junk, junk, junk, junk, junk, junk, junk, junk] ([AObj.cells [.int .i64 x0_0, .int .i64 x0_1] ⟨false, 0⟩, AObj.cells [.int .i64 x_7, .int .i64 x_8] ⟨false, 1⟩, AObj.cells [.int .i64 x_13, .int .i64 x_14, .int .i64 x_15] ⟨false, 1⟩] : AMem)))
                else some (.bool false, ([AObj.cells [.int .i64 x0_0, .int .i64 x0_1] ⟨false, 0⟩, AObj.cells [.int .i64 x_7, .int .i64 x_8] ⟨false, 1⟩, AObj.cells [.int .i64 x_13, .int .i64 x_14, .int .i64 x_15] ⟨false, 1⟩] : AMem)))))))))))))))))))))) := by kernel_rfl
theorem QE4 (L : Rec) (P4_51 : Rec → Int → Int → Int → Int → Int → Int → Int → Int → Int → Int → Res) (hP4_51 : P4_51 = fun (L : Rec) (x2 : Int) (x9 : Int) (x11 : Int) (m0_0 : Int) (m0_1 : Int) (m1_0 : Int) (m1_1 : Int) (m2_0 : Int) (m2_1 : Int) (m2_2 : Int) => code L c4_51 (k4_51 L) (s4_51 x2 x9 x11 m0_0 m0_1 m1_0 m1_1 m2_0 m2_1 m2_2) ([AObj.cells [.int .i64 m0_0, .int .i64 m0_1] ⟨false, 0⟩, AObj.cells [.int .i64 m1_0, .int .i64 m1_1] ⟨false, 1⟩, AObj.cells [.int .i64 m2_0, .int .i64 m2_1, .int .i64 m2_2] ⟨false, 1⟩] : AMem)) (x0_0 : Int) (x0_1 : Int) (x1 : Int) (x2 : Int) : enterF L a4 [.agg #[.int .i64 x0_0, .int .i64 x0_1], .int .u32 x1, .int .u16 x2] [] =
  (Option.bind (L.call 12 [.agg #[.int .i64 x0_0, .int .i64 x0_1]] []) fun r_1 =>
    (Option.bind (boolOf? (some r_1.1)) fun q_2 =>
    (if (!q_2) = true
    then (Option.bind (L.call 13 [] []) fun r_3 =>
      (Option.bind (boolOf? (some r_3.1)) fun q_4 =>
      some (.bool q_4, ([AObj.cells [.int .i64 x0_0, .int .i64 x0_1] ⟨false, 0⟩] : AMem))))
    else (Option.bind (L.call 11 [.agg #[.int .i64 x0_0, .int .i64 x0_1]] []) fun r_5 =>
      (Option.bind (aggOf? 2 r_5.1) fun cs_6 =>
      (Option.bind (intOf? .i64 (cs_6[0]?)) fun x_7 =>
      (Option.bind (intOf? .i64 (cs_6[1]?)) fun x_8 =>
      (Option.bind (L.call 16 [.agg #[.int .i64 x_7, .int .i64 x_8]] []) fun r_9 =>
      (Option.bind (intOf? .i64 (some r_9.1)) fun x_10 =>
      (if (decide (x_10 < 6)) = true
      then some (.bool false, ([AObj.cells [.int .i64 x0_0, .int .i64 x0_1] ⟨false, 0⟩, AObj.cells [.int .i64 x_7, .int .i64 x_8] ⟨false, 1⟩] : AMem))
      else (if x_10 = 0
        then none
        else (Option.bind (L.call 22 [.agg #[.int .i64 x_7, .int .i64 x_8], .int .i64 (Int.tmod (IntKind.wrap .i64 x1) x_10)] []) fun r_11 =>
          (Option.bind (aggOf? 3 r_11.1) fun cs_12 =>
          (Option.bind (intOf? .i64 (cs_12[0]?)) fun x_13 =>
          (Option.bind (intOf? .i64 (cs_12[1]?)) fun x_14 =>
          (Option.bind (intOf? .i64 (cs_12[2]?)) fun x_15 =>
          (if (x_13 == 1) = true
          then P4_51 L x2 (Int.tmod (IntKind.wrap .i64 x1) x_10) 0 x0_0 x0_1 x_7 x_8 x_13 x_14 x_15
          else (if (x_13 == 2) = true
            then (Option.bind (L.call 17 [.agg #[.int .i64 x_7, .int .i64 x_8], .int .i64 x_14] []) fun r_16 =>
              (Option.bind (intOf? .i64 (some r_16.1)) fun x_17 =>
              P4_51 L x2 (Int.tmod (IntKind.wrap .i64 x1) x_10) x_17 x0_0 x0_1 x_7 x_8 x_13 x_14 x_15))
            else (if (x_13 == 3) = true
              then (Option.bind (L.call 19 [.agg #[.int .i64 x_7, .int .i64 x_8], .int .i64 x_14] []) fun r_18 =>
                (Option.bind (intOf? .i64 (some r_18.1)) fun x_19 =>
                P4_51 L x2 (Int.tmod (IntKind.wrap .i64 x1) x_10) x_19 x0_0 x0_1 x_7 x_8 x_13 x_14 x_15))
              else (if (x_13 == 4) = true
                then (Option.bind (L.call 20 [.agg #[.int .i64 x_7, .int .i64 x_8], .int .i64 x_14, .int .i64 x_15] []) fun r_20 =>
                  (Option.bind (intOf? .i64 (some r_20.1)) fun x_21 =>
                  P4_51 L x2 (Int.tmod (IntKind.wrap .i64 x1) x_10) x_21 x0_0 x0_1 x_7 x_8 x_13 x_14 x_15))
                else some (.bool false, ([AObj.cells [.int .i64 x0_0, .int .i64 x0_1] ⟨false, 0⟩, AObj.cells [.int .i64 x_7, .int .i64 x_8] ⟨false, 1⟩, AObj.cells [.int .i64 x_13, .int .i64 x_14, .int .i64 x_15] ⟨false, 1⟩] : AMem)))))))))))))))))))))) := by
  subst hP4_51; exact Eq.mp (by kernel_rfl) (GE4 L c4_51 x0_0 x0_1 x1 x2)
theorem E4 (L : Rec) (x0_0 : Int) (x0_1 : Int) (x1 : Int) (x2 : Int) : enterF L a4 [.agg #[.int .i64 x0_0, .int .i64 x0_1], .int .u32 x1, .int .u16 x2] [] =
  (Option.bind (L.call 12 [.agg #[.int .i64 x0_0, .int .i64 x0_1]] []) fun r_1 =>
    (Option.bind (boolOf? (some r_1.1)) fun q_2 =>
    (if (!q_2) = true
    then (Option.bind (L.call 13 [] []) fun r_3 =>
      (Option.bind (boolOf? (some r_3.1)) fun q_4 =>
      some (.bool q_4, ([AObj.cells [.int .i64 x0_0, .int .i64 x0_1] ⟨false, 0⟩] : AMem))))
    else (Option.bind (L.call 11 [.agg #[.int .i64 x0_0, .int .i64 x0_1]] []) fun r_5 =>
      (Option.bind (aggOf? 2 r_5.1) fun cs_6 =>
      (Option.bind (intOf? .i64 (cs_6[0]?)) fun x_7 =>
      (Option.bind (intOf? .i64 (cs_6[1]?)) fun x_8 =>
      (Option.bind (L.call 16 [.agg #[.int .i64 x_7, .int .i64 x_8]] []) fun r_9 =>
      (Option.bind (intOf? .i64 (some r_9.1)) fun x_10 =>
      (if (decide (x_10 < 6)) = true
      then some (.bool false, ([AObj.cells [.int .i64 x0_0, .int .i64 x0_1] ⟨false, 0⟩, AObj.cells [.int .i64 x_7, .int .i64 x_8] ⟨false, 1⟩] : AMem))
      else (if x_10 = 0
        then none
        else (Option.bind (L.call 22 [.agg #[.int .i64 x_7, .int .i64 x_8], .int .i64 (Int.tmod (IntKind.wrap .i64 x1) x_10)] []) fun r_11 =>
          (Option.bind (aggOf? 3 r_11.1) fun cs_12 =>
          (Option.bind (intOf? .i64 (cs_12[0]?)) fun x_13 =>
          (Option.bind (intOf? .i64 (cs_12[1]?)) fun x_14 =>
          (Option.bind (intOf? .i64 (cs_12[2]?)) fun x_15 =>
          (if (x_13 == 1) = true
          then P4_51 L x2 (Int.tmod (IntKind.wrap .i64 x1) x_10) 0 x0_0 x0_1 x_7 x_8 x_13 x_14 x_15
          else (if (x_13 == 2) = true
            then (Option.bind (L.call 17 [.agg #[.int .i64 x_7, .int .i64 x_8], .int .i64 x_14] []) fun r_16 =>
              (Option.bind (intOf? .i64 (some r_16.1)) fun x_17 =>
              P4_51 L x2 (Int.tmod (IntKind.wrap .i64 x1) x_10) x_17 x0_0 x0_1 x_7 x_8 x_13 x_14 x_15))
            else (if (x_13 == 3) = true
              then (Option.bind (L.call 19 [.agg #[.int .i64 x_7, .int .i64 x_8], .int .i64 x_14] []) fun r_18 =>
                (Option.bind (intOf? .i64 (some r_18.1)) fun x_19 =>
                P4_51 L x2 (Int.tmod (IntKind.wrap .i64 x1) x_10) x_19 x0_0 x0_1 x_7 x_8 x_13 x_14 x_15))
              else (if (x_13 == 4) = true
                then (Option.bind (L.call 20 [.agg #[.int .i64 x_7, .int .i64 x_8], .int .i64 x_14, .int .i64 x_15] []) fun r_20 =>
                  (Option.bind (intOf? .i64 (some r_20.1)) fun x_21 =>
                  P4_51 L x2 (Int.tmod (IntKind.wrap .i64 x1) x_10) x_21 x0_0 x0_1 x_7 x_8 x_13 x_14 x_15))
                else some (.bool false, ([AObj.cells [.int .i64 x0_0, .int .i64 x0_1] ⟨false, 0⟩, AObj.cells [.int .i64 x_7, .int .i64 x_8] ⟨false, 1⟩, AObj.cells [.int .i64 x_13, .int .i64 x_14, .int .i64 x_15] ⟨false, 1⟩] : AMem)))))))))))))))))))))) := QE4 L P4_51 (Classical.choose_spec XP4_51) x0_0 x0_1 x1 x2
/-! #### skylightlaw31.LayoutTells -/
noncomputable def k3_22 (L : Rec) : KT := retK [.tmp 8]
def s3_22 (x1 : Int) (x2 : Int) (x3 : Int) (x10 : Option Addr) (x10n : Nat) (x10c : Nat) (x11 : Nat) (M : AMem) : List Value := [junk, .int .i64 x1, .int .i64 x2, .int .i64 x3, .pointer (some ⟨0, 0, none⟩), junk, junk, junk, junk, .pointer (some ⟨1, 0, none⟩), .slice x10 x10n x10c, .pointer (some ⟨x11, 0, none⟩), junk, junk, junk, junk, junk, junk, junk, junk, junk, junk, junk, junk, junk, junk, junk, junk, junk, junk, junk, junk, junk, junk, junk, junk, junk, junk, junk, junk, junk, junk, junk, junk, junk, junk, junk, junk, junk, junk, junk, junk, junk, junk, junk, junk, junk, junk, junk, junk, junk, junk, junk, junk, junk, junk, junk, junk, junk, junk, junk, junk, junk, junk, junk, junk, junk, junk, junk, junk, junk, junk, junk, junk, junk, junk, junk, junk, junk, junk, junk, junk, junk, junk, junk, junk, junk, junk, junk, junk, junk, junk, junk, junk, junk, junk, junk, junk, junk, junk, junk, junk, junk, junk, junk, junk, junk, junk, junk, junk, junk, junk, junk, junk, junk, junk, junk, junk, junk, junk, junk, junk]
theorem XP3_22 : ∃ P : Rec → Int → Int → Int → (Option Addr) → Nat → Nat → Nat → AMem → Res, P = fun (L : Rec) (x1 : Int) (x2 : Int) (x3 : Int) (x10 : Option Addr) (x10n : Nat) (x10c : Nat) (x11 : Nat) (M : AMem) => code L c3_22 (k3_22 L) (s3_22 x1 x2 x3 x10 x10n x10c x11 M) M := ⟨_, rfl⟩
noncomputable def P3_22 : Rec → Int → Int → Int → (Option Addr) → Nat → Nat → Nat → AMem → Res := Classical.choose XP3_22
noncomputable def k3_30 (L : Rec) : KT := retK [.tmp 8]
def s3_30 (x1 : Int) (x2 : Int) (x3 : Int) (x10 : Option Addr) (x10n : Nat) (x10c : Nat) (x11 : Nat) (x12 : Int) (M : AMem) : List Value := [junk, .int .i64 x1, .int .i64 x2, .int .i64 x3, .pointer (some ⟨0, 0, none⟩), junk, junk, junk, junk, .pointer (some ⟨1, 0, none⟩), .slice x10 x10n x10c, .pointer (some ⟨x11, 0, none⟩), .int .i64 x12, junk, junk, junk, junk, junk, junk, junk, junk, junk, junk, junk, junk, junk, junk, junk, junk, junk, junk, junk, junk, junk, junk, junk, junk, junk, junk, junk, junk, junk, junk, junk, junk, junk, junk, junk, junk, junk, junk, junk, junk, junk, junk, junk, junk, junk, junk, junk, junk, junk, junk, junk, junk, junk, junk, junk, junk, junk, junk, junk, junk, junk, junk, junk, junk, junk, junk, junk, junk, junk, junk, junk, junk, junk, junk, junk, junk, junk, junk, junk, junk, junk, junk, junk, junk, junk, junk, junk, junk, junk, junk, junk, junk, junk, junk, junk, junk, junk, junk, junk, junk, junk, junk, junk, junk, junk, junk, junk, junk, junk, junk, junk, junk, junk, junk, junk, junk, junk, junk, junk]
theorem XP3_30 : ∃ P : Rec → Int → Int → Int → (Option Addr) → Nat → Nat → Nat → Int → AMem → Res, P = fun (L : Rec) (x1 : Int) (x2 : Int) (x3 : Int) (x10 : Option Addr) (x10n : Nat) (x10c : Nat) (x11 : Nat) (x12 : Int) (M : AMem) => code L c3_30 (k3_30 L) (s3_30 x1 x2 x3 x10 x10n x10c x11 x12 M) M := ⟨_, rfl⟩
noncomputable def P3_30 : Rec → Int → Int → Int → (Option Addr) → Nat → Nat → Nat → Int → AMem → Res := Classical.choose XP3_30
theorem G3_22 (L : Rec) (c3_30 : ACode) (x1 : Int) (x2 : Int) (x3 : Int) (x10 : Option Addr) (x10n : Nat) (x10c : Nat) (x11 : Nat) (M : AMem) : code L (.seq (.ops o3_23) (.seq (.seq (.ops o3_26) (.cond (.tmp 66) (.ops o3_28) (.skip))) (.clear [0, 5, 6, 7, 8, 13, 14, 15, 16, 17, 18, 19, 20, 21, 22, 23, 24, 25, 26, 27, 28, 29, 30, 31, 32, 33, 34, 35, 36, 37, 38, 39, 40, 41, 42, 43, 44, 45, 46, 47, 48, 49, 50, 51, 52, 53, 54, 55, 56, 57, 58, 59, 60, 61, 62, 63, 64, 65, 66, 67, 68, 69, 70, 71, 72, 73, 74, 75, 76, 77, 78, 79, 80, 81, 82, 83, 84, 85, 86, 87, 88, 89, 90, 91, 92, 93, 94, 95, 96, 97, 98, 99, 100, 101, 102, 103, 104, 105, 106, 107, 108, 109, 110, 111, 112, 113, 114, 115, 116, 117, 118, 119, 120, 121, 122, 123, 124, 125, 126, 127, 128, 129, 130, 131] c3_30))) (retK [.tmp 8]) [junk, .int .i64 x1, .int .i64 x2, .int .i64 x3, .pointer (some ⟨0, 0, none⟩), junk, junk, junk, junk, .pointer (some ⟨1, 0, none⟩), .slice x10 x10n x10c, .pointer (some ⟨x11, 0, none⟩), junk, junk, junk, junk, junk, junk, junk, junk, junk, junk, junk, junk, junk, junk, junk, junk, junk, junk, junk, junk, junk, junk, junk, junk, junk, junk, junk, junk, junk, junk, junk, junk, junk, junk, junk, junk, junk, junk, junk, junk, junk, junk, junk, junk, junk, junk, junk, junk, junk, junk, junk, junk, junk, junk, junk, junk, junk, junk, junk, junk, junk, junk, junk, junk, junk, junk, junk, junk, junk, junk, junk, junk, junk, junk, junk, junk, junk, junk, junk, junk, junk, junk, junk, junk, junk, junk, junk, junk, junk, junk, junk, junk, junk, junk, junk, junk, junk, junk, junk, junk, junk, junk, junk, junk, junk, junk, junk, junk, junk, junk, junk, junk, junk, junk, junk, junk, junk, junk, junk, junk] M =
  (Option.bind (intOf? .i64 (AMem.ld M 0 0)) fun x_1 =>
    (Option.bind (intOf? .i64 (AMem.ld M 0 1)) fun x_2 =>
    (Option.bind (L.call 12 [.agg #[.int .i64 x_1, .int .i64 x_2]] []) fun r_3 =>
    (Option.bind (boolOf? (some r_3.1)) fun q_4 =>
    (if q_4 = true
    then (if (decide (x1 ≥ 0)) = true
      then (Option.bind (intOf? .i64 (AMem.ld M 0 0)) fun x_5 =>
        (if (decide (x1 < x_5)) = true
        then (Option.bind (intOf? .i64 (AMem.ld M 0 1)) fun x_6 =>
          (if x_6 = 0
          then none
          else code L c3_30 (retK [.tmp 8]) [junk, .int .i64 x1, .int .i64 x2, .int .i64 x3, .pointer (some ⟨0, 0, none⟩), junk, junk, junk, junk, .pointer (some ⟨1, 0, none⟩), .slice x10 x10n x10c, .pointer (some ⟨x11, 0, none⟩), .int .i64 (Int.tmod x1 x_6), junk, junk, junk, junk, junk, junk, junk, junk, junk, junk, junk, junk, junk, junk, junk, junk, junk, junk, junk, junk, junk, junk, junk, junk, junk, junk, junk, junk, junk, junk, junk, junk, junk, junk, junk, junk, junk, junk, junk, junk, junk, junk, junk, junk, junk, junk, junk, junk, junk, junk, junk, junk, junk, junk, junk, junk, junk, junk, junk, junk, junk, junk, junk, junk, junk, junk, junk, junk, junk, junk, junk, junk, junk, junk, junk, junk, junk, junk, junk, junk, junk, junk, junk, junk, junk, junk, junk, junk, junk, junk, junk, junk, junk, junk, junk, junk, junk, junk, junk, junk, junk, junk, junk, junk, junk, junk, junk, junk, junk, junk, junk, junk, junk, junk, junk, junk, junk, junk, junk] M))
        else code L c3_30 (retK [.tmp 8]) [junk, .int .i64 x1, .int .i64 x2, .int .i64 x3, .pointer (some ⟨0, 0, none⟩), junk, junk, junk, junk, .pointer (some ⟨1, 0, none⟩), .slice x10 x10n x10c, .pointer (some ⟨x11, 0, none⟩), .int .i64 (-1), junk, junk, junk, junk, junk, junk, junk, junk, junk, junk, junk, junk, junk, junk, junk, junk, junk, junk, junk, junk, junk, junk, junk, junk, junk, junk, junk, junk, junk, junk, junk, junk, junk, junk, junk, junk, junk, junk, junk, junk, junk, junk, junk, junk, junk, junk, junk, junk, junk, junk, junk, junk, junk, junk, junk, junk, junk, junk, junk, junk, junk, junk, junk, junk, junk, junk, junk, junk, junk, junk, junk, junk, junk, junk, junk, junk, junk, junk, junk, junk, junk, junk, junk, junk, junk, junk, junk, junk, junk, junk, junk, junk, junk, junk, junk, junk, junk, junk, junk, junk, junk, junk, junk, junk, junk, junk, junk, junk, junk, junk, junk, junk, junk, junk, junk, junk, junk, junk, junk] M))
      else code L c3_30 (retK [.tmp 8]) [junk, .int .i64 x1, .int .i64 x2, .int .i64 x3, .pointer (some ⟨0, 0, none⟩), junk, junk, junk, junk, .pointer (some ⟨1, 0, none⟩), .slice x10 x10n x10c, .pointer (some ⟨x11, 0, none⟩), .int .i64 (-1), junk, junk, junk, junk, junk, junk, junk, junk, junk, junk, junk, junk, junk, junk, junk, junk, junk, junk, junk, junk, junk, junk, junk, junk, junk, junk, junk, junk, junk, junk, junk, junk, junk, junk, junk, junk, junk, junk, junk, junk, junk, junk, junk, junk, junk, junk, junk, junk, junk, junk, junk, junk, junk, junk, junk, junk, junk, junk, junk, junk, junk, junk, junk, junk, junk, junk, junk, junk, junk, junk, junk, junk, junk, junk, junk, junk, junk, junk, junk, junk, junk, junk, junk, junk, junk, junk, junk, junk, junk, junk, junk, junk, junk, junk, junk, junk, junk, junk, junk, junk, junk, junk, junk, junk, junk, junk, junk, junk, junk, junk, junk, junk, junk, junk, junk, junk, junk, junk, junk] M)
    else code L c3_30 (retK [.tmp 8]) [junk, .int .i64 x1, .int .i64 x2, .int .i64 x3, .pointer (some ⟨0, 0, none⟩), junk, junk, junk, junk, .pointer (some ⟨1, 0, none⟩), .slice x10 x10n x10c, .pointer (some ⟨x11, 0, none⟩), .int .i64 (-1), junk, junk, junk, junk, junk, junk, junk, junk, junk, junk, junk, junk, junk, junk, junk, junk, junk, junk, junk, junk, junk, junk, junk, junk, junk, junk, junk, junk, junk, junk, junk, junk, junk, junk, junk, junk, junk, junk, junk, junk, junk, junk, junk, junk, junk, junk, junk, junk, junk, junk, junk, junk, junk, junk, junk, junk, junk, junk, junk, junk, junk, junk, junk, junk, junk, junk, junk, junk, junk, junk, junk, junk, junk, junk, junk, junk, junk, junk, junk, junk, junk, junk, junk, junk, junk, junk, junk, junk, junk, junk, junk, junk, junk, junk, junk, junk, junk, junk, junk, junk, junk, junk, junk, junk, junk, junk, junk, junk, junk, junk, junk, junk, junk, junk, junk, junk, junk, junk, junk] M))))) := by kernel_rfl
theorem QP3_22_eq (L : Rec) (P3_22 : Rec → Int → Int → Int → (Option Addr) → Nat → Nat → Nat → AMem → Res) (hP3_22 : P3_22 = fun (L : Rec) (x1 : Int) (x2 : Int) (x3 : Int) (x10 : Option Addr) (x10n : Nat) (x10c : Nat) (x11 : Nat) (M : AMem) => code L c3_22 (k3_22 L) (s3_22 x1 x2 x3 x10 x10n x10c x11 M) M) (P3_30 : Rec → Int → Int → Int → (Option Addr) → Nat → Nat → Nat → Int → AMem → Res) (hP3_30 : P3_30 = fun (L : Rec) (x1 : Int) (x2 : Int) (x3 : Int) (x10 : Option Addr) (x10n : Nat) (x10c : Nat) (x11 : Nat) (x12 : Int) (M : AMem) => code L c3_30 (k3_30 L) (s3_30 x1 x2 x3 x10 x10n x10c x11 x12 M) M) (x1 : Int) (x2 : Int) (x3 : Int) (x10 : Option Addr) (x10n : Nat) (x10c : Nat) (x11 : Nat) (M : AMem) : P3_22 L x1 x2 x3 x10 x10n x10c x11 M =
  (Option.bind (intOf? .i64 (AMem.ld M 0 0)) fun x_1 =>
    (Option.bind (intOf? .i64 (AMem.ld M 0 1)) fun x_2 =>
    (Option.bind (L.call 12 [.agg #[.int .i64 x_1, .int .i64 x_2]] []) fun r_3 =>
    (Option.bind (boolOf? (some r_3.1)) fun q_4 =>
    (if q_4 = true
    then (if (decide (x1 ≥ 0)) = true
      then (Option.bind (intOf? .i64 (AMem.ld M 0 0)) fun x_5 =>
        (if (decide (x1 < x_5)) = true
        then (Option.bind (intOf? .i64 (AMem.ld M 0 1)) fun x_6 =>
          (if x_6 = 0
          then none
          else P3_30 L x1 x2 x3 x10 x10n x10c x11 (Int.tmod x1 x_6) M))
        else P3_30 L x1 x2 x3 x10 x10n x10c x11 (-1) M))
      else P3_30 L x1 x2 x3 x10 x10n x10c x11 (-1) M)
    else P3_30 L x1 x2 x3 x10 x10n x10c x11 (-1) M))))) := by
  subst hP3_22; subst hP3_30; exact Eq.mp (by kernel_rfl) (G3_22 L c3_30 x1 x2 x3 x10 x10n x10c x11 M)
theorem P3_22_eq (L : Rec) (x1 : Int) (x2 : Int) (x3 : Int) (x10 : Option Addr) (x10n : Nat) (x10c : Nat) (x11 : Nat) (M : AMem) : P3_22 L x1 x2 x3 x10 x10n x10c x11 M =
  (Option.bind (intOf? .i64 (AMem.ld M 0 0)) fun x_1 =>
    (Option.bind (intOf? .i64 (AMem.ld M 0 1)) fun x_2 =>
    (Option.bind (L.call 12 [.agg #[.int .i64 x_1, .int .i64 x_2]] []) fun r_3 =>
    (Option.bind (boolOf? (some r_3.1)) fun q_4 =>
    (if q_4 = true
    then (if (decide (x1 ≥ 0)) = true
      then (Option.bind (intOf? .i64 (AMem.ld M 0 0)) fun x_5 =>
        (if (decide (x1 < x_5)) = true
        then (Option.bind (intOf? .i64 (AMem.ld M 0 1)) fun x_6 =>
          (if x_6 = 0
          then none
          else P3_30 L x1 x2 x3 x10 x10n x10c x11 (Int.tmod x1 x_6) M))
        else P3_30 L x1 x2 x3 x10 x10n x10c x11 (-1) M))
      else P3_30 L x1 x2 x3 x10 x10n x10c x11 (-1) M)
    else P3_30 L x1 x2 x3 x10 x10n x10c x11 (-1) M))))) := QP3_22_eq L P3_22 (Classical.choose_spec XP3_22) P3_30 (Classical.choose_spec XP3_30) x1 x2 x3 x10 x10n x10c x11 M
theorem G3_30 (L : Rec) (x1 : Int) (x2 : Int) (x3 : Int) (x10 : Option Addr) (x10n : Nat) (x10c : Nat) (x11 : Nat) (x12 : Int) (M : AMem) : code L (.seq (.draw [] 0 o3_31 []) (.ret)) (retK [.tmp 8]) [junk, .int .i64 x1, .int .i64 x2, .int .i64 x3, .pointer (some ⟨0, 0, none⟩), junk, junk, junk, junk, .pointer (some ⟨1, 0, none⟩), .slice x10 x10n x10c, .pointer (some ⟨x11, 0, none⟩), .int .i64 x12, junk, junk, junk, junk, junk, junk, junk, junk, junk, junk, junk, junk, junk, junk, junk, junk, junk, junk, junk, junk, junk, junk, junk, junk, junk, junk, junk, junk, junk, junk, junk, junk, junk, junk, junk, junk, junk, junk, junk, junk, junk, junk, junk, junk, junk, junk, junk, junk, junk, junk, junk, junk, junk, junk, junk, junk, junk, junk, junk, junk, junk, junk, junk, junk, junk, junk, junk, junk, junk, junk, junk, junk, junk, junk, junk, junk, junk, junk, junk, junk, junk, junk, junk, junk, junk, junk, junk, junk, junk, junk, junk, junk, junk, junk, junk, junk, junk, junk, junk, junk, junk, junk, junk, junk, junk, junk, junk, junk, junk, junk, junk, junk, junk, junk, junk, junk, junk, junk, junk] M =
  (Option.bind (intOf? .i64 (AMem.ld M 1 0)) fun x_1 =>
    (Option.bind (intOf? .i64 (AMem.ld M 1 1)) fun x_2 =>
    (Option.bind (L.call 15 [.agg #[.int .i64 x_1, .int .i64 x_2]] []) fun r_3 =>
    (Option.bind (boolOf? (some r_3.1)) fun q_4 =>
    (Option.bind (intOf? .i64 (AMem.ld M 0 0)) fun x_5 =>
    (Option.bind (intOf? .i64 (AMem.ld M 0 1)) fun x_6 =>
    (Option.bind (L.call 12 [.agg #[.int .i64 x_5, .int .i64 x_6]] []) fun r_7 =>
    (Option.bind (boolOf? (some r_7.1)) fun q_8 =>
    (if (q_4 == q_8) = true
    then (Option.bind (intOf? .i64 (AMem.ld M 1 0)) fun x_9 =>
      (Option.bind (intOf? .i64 (AMem.ld M 1 1)) fun x_10 =>
      (Option.bind (L.call 16 [.agg #[.int .i64 x_9, .int .i64 x_10]] []) fun r_11 =>
      (Option.bind (intOf? .i64 (some r_11.1)) fun x_12 =>
      (if (x_12 == (Int.ofNat x10n)) = true
      then (Option.bind (intOf? .i64 (AMem.ld M 1 0)) fun x_13 =>
        (Option.bind (intOf? .i64 (AMem.ld M 1 1)) fun x_14 =>
        (Option.bind (L.call 17 [.agg #[.int .i64 x_13, .int .i64 x_14], .int .i64 x1] []) fun r_15 =>
        (Option.bind (intOf? .i64 (some r_15.1)) fun x_16 =>
        (Option.bind (intOf? .i64 (AMem.ld M 0 0)) fun x_17 =>
        (Option.bind (intOf? .i64 (AMem.ld M 0 1)) fun x_18 =>
        (Option.bind (L.call 18 [.agg #[.int .i64 x_17, .int .i64 x_18], .agg #[.int .i64 2, .int .i64 x1, .int .i64 0]] []) fun r_19 =>
        (Option.bind (intOf? .i64 (some r_19.1)) fun x_20 =>
        (if (x_16 == x_20) = true
        then (Option.bind (intOf? .i64 (AMem.ld M 1 0)) fun x_21 =>
          (Option.bind (intOf? .i64 (AMem.ld M 1 1)) fun x_22 =>
          (Option.bind (L.call 19 [.agg #[.int .i64 x_21, .int .i64 x_22], .int .i64 x1] []) fun r_23 =>
          (Option.bind (intOf? .i64 (some r_23.1)) fun x_24 =>
          (Option.bind (intOf? .i64 (AMem.ld M 0 0)) fun x_25 =>
          (Option.bind (intOf? .i64 (AMem.ld M 0 1)) fun x_26 =>
          (Option.bind (L.call 18 [.agg #[.int .i64 x_25, .int .i64 x_26], .agg #[.int .i64 3, .int .i64 x1, .int .i64 0]] []) fun r_27 =>
          (Option.bind (intOf? .i64 (some r_27.1)) fun x_28 =>
          (if (x_24 == x_28) = true
          then (Option.bind (intOf? .i64 (AMem.ld M 1 0)) fun x_29 =>
            (Option.bind (intOf? .i64 (AMem.ld M 1 1)) fun x_30 =>
            (Option.bind (L.call 20 [.agg #[.int .i64 x_29, .int .i64 x_30], .int .i64 x1, .int .i64 x2] []) fun r_31 =>
            (Option.bind (intOf? .i64 (some r_31.1)) fun x_32 =>
            (Option.bind (intOf? .i64 (AMem.ld M 0 0)) fun x_33 =>
            (Option.bind (intOf? .i64 (AMem.ld M 0 1)) fun x_34 =>
            (Option.bind (L.call 18 [.agg #[.int .i64 x_33, .int .i64 x_34], .agg #[.int .i64 4, .int .i64 x1, .int .i64 x2]] []) fun r_35 =>
            (Option.bind (intOf? .i64 (some r_35.1)) fun x_36 =>
            (if (x_32 == x_36) = true
            then (Option.bind (intOf? .i64 (AMem.ld M 1 0)) fun x_37 =>
              (Option.bind (intOf? .i64 (AMem.ld M 1 1)) fun x_38 =>
              (Option.bind (L.call 21 [.agg #[.int .i64 x_37, .int .i64 x_38], .int .i64 x1] []) fun r_39 =>
              (Option.bind (intOf? .i64 (some r_39.1)) fun x_40 =>
              (if (x_40 == x12) = true
              then (Option.bind (intOf? .i64 (AMem.ld M 1 0)) fun x_41 =>
                (Option.bind (intOf? .i64 (AMem.ld M 1 1)) fun x_42 =>
                (Option.bind (L.call 22 [.agg #[.int .i64 x_41, .int .i64 x_42], .int .i64 x3] []) fun r_43 =>
                (Option.bind (aggOf? 3 r_43.1) fun cs_44 =>
                (Option.bind (intOf? .i64 (cs_44[0]?)) fun x_45 =>
                (Option.bind (intOf? .i64 (cs_44[1]?)) fun x_46 =>
                (Option.bind (intOf? .i64 (cs_44[2]?)) fun x_47 =>
                (Option.bind (intOf? .i64 (AMem.ld M x11 0)) fun x_48 =>
                (Option.bind (intOf? .i64 (AMem.ld M x11 1)) fun x_49 =>
                (Option.bind (intOf? .i64 (AMem.ld M x11 2)) fun x_50 =>
                (if ((x_45 == x_48) && ((x_46 == x_49) && (x_47 == x_50))) = true
                then (Option.bind (L.call 13 [] []) fun r_51 =>
                  (Option.bind (boolOf? (some r_51.1)) fun q_52 =>
                  some (.bool q_52, M)))
                else some (.bool false, M))))))))))))
              else some (.bool false, M))))))
            else some (.bool false, M))))))))))
          else some (.bool false, M))))))))))
        else some (.bool false, M))))))))))
      else some (.bool false, M))))))
    else some (.bool false, M)))))))))) := by kernel_rfl
theorem QP3_30_eq (L : Rec) (P3_30 : Rec → Int → Int → Int → (Option Addr) → Nat → Nat → Nat → Int → AMem → Res) (hP3_30 : P3_30 = fun (L : Rec) (x1 : Int) (x2 : Int) (x3 : Int) (x10 : Option Addr) (x10n : Nat) (x10c : Nat) (x11 : Nat) (x12 : Int) (M : AMem) => code L c3_30 (k3_30 L) (s3_30 x1 x2 x3 x10 x10n x10c x11 x12 M) M) (x1 : Int) (x2 : Int) (x3 : Int) (x10 : Option Addr) (x10n : Nat) (x10c : Nat) (x11 : Nat) (x12 : Int) (M : AMem) : P3_30 L x1 x2 x3 x10 x10n x10c x11 x12 M =
  (Option.bind (intOf? .i64 (AMem.ld M 1 0)) fun x_1 =>
    (Option.bind (intOf? .i64 (AMem.ld M 1 1)) fun x_2 =>
    (Option.bind (L.call 15 [.agg #[.int .i64 x_1, .int .i64 x_2]] []) fun r_3 =>
    (Option.bind (boolOf? (some r_3.1)) fun q_4 =>
    (Option.bind (intOf? .i64 (AMem.ld M 0 0)) fun x_5 =>
    (Option.bind (intOf? .i64 (AMem.ld M 0 1)) fun x_6 =>
    (Option.bind (L.call 12 [.agg #[.int .i64 x_5, .int .i64 x_6]] []) fun r_7 =>
    (Option.bind (boolOf? (some r_7.1)) fun q_8 =>
    (if (q_4 == q_8) = true
    then (Option.bind (intOf? .i64 (AMem.ld M 1 0)) fun x_9 =>
      (Option.bind (intOf? .i64 (AMem.ld M 1 1)) fun x_10 =>
      (Option.bind (L.call 16 [.agg #[.int .i64 x_9, .int .i64 x_10]] []) fun r_11 =>
      (Option.bind (intOf? .i64 (some r_11.1)) fun x_12 =>
      (if (x_12 == (Int.ofNat x10n)) = true
      then (Option.bind (intOf? .i64 (AMem.ld M 1 0)) fun x_13 =>
        (Option.bind (intOf? .i64 (AMem.ld M 1 1)) fun x_14 =>
        (Option.bind (L.call 17 [.agg #[.int .i64 x_13, .int .i64 x_14], .int .i64 x1] []) fun r_15 =>
        (Option.bind (intOf? .i64 (some r_15.1)) fun x_16 =>
        (Option.bind (intOf? .i64 (AMem.ld M 0 0)) fun x_17 =>
        (Option.bind (intOf? .i64 (AMem.ld M 0 1)) fun x_18 =>
        (Option.bind (L.call 18 [.agg #[.int .i64 x_17, .int .i64 x_18], .agg #[.int .i64 2, .int .i64 x1, .int .i64 0]] []) fun r_19 =>
        (Option.bind (intOf? .i64 (some r_19.1)) fun x_20 =>
        (if (x_16 == x_20) = true
        then (Option.bind (intOf? .i64 (AMem.ld M 1 0)) fun x_21 =>
          (Option.bind (intOf? .i64 (AMem.ld M 1 1)) fun x_22 =>
          (Option.bind (L.call 19 [.agg #[.int .i64 x_21, .int .i64 x_22], .int .i64 x1] []) fun r_23 =>
          (Option.bind (intOf? .i64 (some r_23.1)) fun x_24 =>
          (Option.bind (intOf? .i64 (AMem.ld M 0 0)) fun x_25 =>
          (Option.bind (intOf? .i64 (AMem.ld M 0 1)) fun x_26 =>
          (Option.bind (L.call 18 [.agg #[.int .i64 x_25, .int .i64 x_26], .agg #[.int .i64 3, .int .i64 x1, .int .i64 0]] []) fun r_27 =>
          (Option.bind (intOf? .i64 (some r_27.1)) fun x_28 =>
          (if (x_24 == x_28) = true
          then (Option.bind (intOf? .i64 (AMem.ld M 1 0)) fun x_29 =>
            (Option.bind (intOf? .i64 (AMem.ld M 1 1)) fun x_30 =>
            (Option.bind (L.call 20 [.agg #[.int .i64 x_29, .int .i64 x_30], .int .i64 x1, .int .i64 x2] []) fun r_31 =>
            (Option.bind (intOf? .i64 (some r_31.1)) fun x_32 =>
            (Option.bind (intOf? .i64 (AMem.ld M 0 0)) fun x_33 =>
            (Option.bind (intOf? .i64 (AMem.ld M 0 1)) fun x_34 =>
            (Option.bind (L.call 18 [.agg #[.int .i64 x_33, .int .i64 x_34], .agg #[.int .i64 4, .int .i64 x1, .int .i64 x2]] []) fun r_35 =>
            (Option.bind (intOf? .i64 (some r_35.1)) fun x_36 =>
            (if (x_32 == x_36) = true
            then (Option.bind (intOf? .i64 (AMem.ld M 1 0)) fun x_37 =>
              (Option.bind (intOf? .i64 (AMem.ld M 1 1)) fun x_38 =>
              (Option.bind (L.call 21 [.agg #[.int .i64 x_37, .int .i64 x_38], .int .i64 x1] []) fun r_39 =>
              (Option.bind (intOf? .i64 (some r_39.1)) fun x_40 =>
              (if (x_40 == x12) = true
              then (Option.bind (intOf? .i64 (AMem.ld M 1 0)) fun x_41 =>
                (Option.bind (intOf? .i64 (AMem.ld M 1 1)) fun x_42 =>
                (Option.bind (L.call 22 [.agg #[.int .i64 x_41, .int .i64 x_42], .int .i64 x3] []) fun r_43 =>
                (Option.bind (aggOf? 3 r_43.1) fun cs_44 =>
                (Option.bind (intOf? .i64 (cs_44[0]?)) fun x_45 =>
                (Option.bind (intOf? .i64 (cs_44[1]?)) fun x_46 =>
                (Option.bind (intOf? .i64 (cs_44[2]?)) fun x_47 =>
                (Option.bind (intOf? .i64 (AMem.ld M x11 0)) fun x_48 =>
                (Option.bind (intOf? .i64 (AMem.ld M x11 1)) fun x_49 =>
                (Option.bind (intOf? .i64 (AMem.ld M x11 2)) fun x_50 =>
                (if ((x_45 == x_48) && ((x_46 == x_49) && (x_47 == x_50))) = true
                then (Option.bind (L.call 13 [] []) fun r_51 =>
                  (Option.bind (boolOf? (some r_51.1)) fun q_52 =>
                  some (.bool q_52, M)))
                else some (.bool false, M))))))))))))
              else some (.bool false, M))))))
            else some (.bool false, M))))))))))
          else some (.bool false, M))))))))))
        else some (.bool false, M))))))))))
      else some (.bool false, M))))))
    else some (.bool false, M)))))))))) := by
  subst hP3_30; exact Eq.mp (by kernel_rfl) (G3_30 L  x1 x2 x3 x10 x10n x10c x11 x12 M)
theorem P3_30_eq (L : Rec) (x1 : Int) (x2 : Int) (x3 : Int) (x10 : Option Addr) (x10n : Nat) (x10c : Nat) (x11 : Nat) (x12 : Int) (M : AMem) : P3_30 L x1 x2 x3 x10 x10n x10c x11 x12 M =
  (Option.bind (intOf? .i64 (AMem.ld M 1 0)) fun x_1 =>
    (Option.bind (intOf? .i64 (AMem.ld M 1 1)) fun x_2 =>
    (Option.bind (L.call 15 [.agg #[.int .i64 x_1, .int .i64 x_2]] []) fun r_3 =>
    (Option.bind (boolOf? (some r_3.1)) fun q_4 =>
    (Option.bind (intOf? .i64 (AMem.ld M 0 0)) fun x_5 =>
    (Option.bind (intOf? .i64 (AMem.ld M 0 1)) fun x_6 =>
    (Option.bind (L.call 12 [.agg #[.int .i64 x_5, .int .i64 x_6]] []) fun r_7 =>
    (Option.bind (boolOf? (some r_7.1)) fun q_8 =>
    (if (q_4 == q_8) = true
    then (Option.bind (intOf? .i64 (AMem.ld M 1 0)) fun x_9 =>
      (Option.bind (intOf? .i64 (AMem.ld M 1 1)) fun x_10 =>
      (Option.bind (L.call 16 [.agg #[.int .i64 x_9, .int .i64 x_10]] []) fun r_11 =>
      (Option.bind (intOf? .i64 (some r_11.1)) fun x_12 =>
      (if (x_12 == (Int.ofNat x10n)) = true
      then (Option.bind (intOf? .i64 (AMem.ld M 1 0)) fun x_13 =>
        (Option.bind (intOf? .i64 (AMem.ld M 1 1)) fun x_14 =>
        (Option.bind (L.call 17 [.agg #[.int .i64 x_13, .int .i64 x_14], .int .i64 x1] []) fun r_15 =>
        (Option.bind (intOf? .i64 (some r_15.1)) fun x_16 =>
        (Option.bind (intOf? .i64 (AMem.ld M 0 0)) fun x_17 =>
        (Option.bind (intOf? .i64 (AMem.ld M 0 1)) fun x_18 =>
        (Option.bind (L.call 18 [.agg #[.int .i64 x_17, .int .i64 x_18], .agg #[.int .i64 2, .int .i64 x1, .int .i64 0]] []) fun r_19 =>
        (Option.bind (intOf? .i64 (some r_19.1)) fun x_20 =>
        (if (x_16 == x_20) = true
        then (Option.bind (intOf? .i64 (AMem.ld M 1 0)) fun x_21 =>
          (Option.bind (intOf? .i64 (AMem.ld M 1 1)) fun x_22 =>
          (Option.bind (L.call 19 [.agg #[.int .i64 x_21, .int .i64 x_22], .int .i64 x1] []) fun r_23 =>
          (Option.bind (intOf? .i64 (some r_23.1)) fun x_24 =>
          (Option.bind (intOf? .i64 (AMem.ld M 0 0)) fun x_25 =>
          (Option.bind (intOf? .i64 (AMem.ld M 0 1)) fun x_26 =>
          (Option.bind (L.call 18 [.agg #[.int .i64 x_25, .int .i64 x_26], .agg #[.int .i64 3, .int .i64 x1, .int .i64 0]] []) fun r_27 =>
          (Option.bind (intOf? .i64 (some r_27.1)) fun x_28 =>
          (if (x_24 == x_28) = true
          then (Option.bind (intOf? .i64 (AMem.ld M 1 0)) fun x_29 =>
            (Option.bind (intOf? .i64 (AMem.ld M 1 1)) fun x_30 =>
            (Option.bind (L.call 20 [.agg #[.int .i64 x_29, .int .i64 x_30], .int .i64 x1, .int .i64 x2] []) fun r_31 =>
            (Option.bind (intOf? .i64 (some r_31.1)) fun x_32 =>
            (Option.bind (intOf? .i64 (AMem.ld M 0 0)) fun x_33 =>
            (Option.bind (intOf? .i64 (AMem.ld M 0 1)) fun x_34 =>
            (Option.bind (L.call 18 [.agg #[.int .i64 x_33, .int .i64 x_34], .agg #[.int .i64 4, .int .i64 x1, .int .i64 x2]] []) fun r_35 =>
            (Option.bind (intOf? .i64 (some r_35.1)) fun x_36 =>
            (if (x_32 == x_36) = true
            then (Option.bind (intOf? .i64 (AMem.ld M 1 0)) fun x_37 =>
              (Option.bind (intOf? .i64 (AMem.ld M 1 1)) fun x_38 =>
              (Option.bind (L.call 21 [.agg #[.int .i64 x_37, .int .i64 x_38], .int .i64 x1] []) fun r_39 =>
              (Option.bind (intOf? .i64 (some r_39.1)) fun x_40 =>
              (if (x_40 == x12) = true
              then (Option.bind (intOf? .i64 (AMem.ld M 1 0)) fun x_41 =>
                (Option.bind (intOf? .i64 (AMem.ld M 1 1)) fun x_42 =>
                (Option.bind (L.call 22 [.agg #[.int .i64 x_41, .int .i64 x_42], .int .i64 x3] []) fun r_43 =>
                (Option.bind (aggOf? 3 r_43.1) fun cs_44 =>
                (Option.bind (intOf? .i64 (cs_44[0]?)) fun x_45 =>
                (Option.bind (intOf? .i64 (cs_44[1]?)) fun x_46 =>
                (Option.bind (intOf? .i64 (cs_44[2]?)) fun x_47 =>
                (Option.bind (intOf? .i64 (AMem.ld M x11 0)) fun x_48 =>
                (Option.bind (intOf? .i64 (AMem.ld M x11 1)) fun x_49 =>
                (Option.bind (intOf? .i64 (AMem.ld M x11 2)) fun x_50 =>
                (if ((x_45 == x_48) && ((x_46 == x_49) && (x_47 == x_50))) = true
                then (Option.bind (L.call 13 [] []) fun r_51 =>
                  (Option.bind (boolOf? (some r_51.1)) fun q_52 =>
                  some (.bool q_52, M)))
                else some (.bool false, M))))))))))))
              else some (.bool false, M))))))
            else some (.bool false, M))))))))))
          else some (.bool false, M))))))))))
        else some (.bool false, M))))))))))
      else some (.bool false, M))))))
    else some (.bool false, M)))))))))) := QP3_30_eq L P3_30 (Classical.choose_spec XP3_30) x1 x2 x3 x10 x10n x10c x11 x12 M
theorem GE3 (L : Rec) (c3_22 : ACode) (x0_0 : Int) (x0_1 : Int) (x1 : Int) (x2 : Int) (x3 : Int) : enterF L ⟨132, [.tmp 8], .seq (.ops o3_1) (.seq (.ops o3_3) (.seq (.seq (.ops o3_6) (.cond (.tmp 26) (.seq (.ops o3_9) (.ret)) (.skip))) (.seq (.ops o3_13) (.seq (.ops o3_15) (.seq (.seq (.ops o3_18) (.cond (.tmp 38) (.draw [] 0 o3_20 []) (.skip))) (.clear [0, 5, 6, 7, 8, 12, 13, 14, 15, 16, 17, 18, 19, 20, 21, 22, 23, 24, 25, 26, 27, 28, 29, 30, 31, 32, 33, 34, 35, 36, 37, 38, 39, 40, 41, 42, 43, 44, 45, 46, 47, 48, 49, 50, 51, 52, 53, 54, 55, 56, 57, 58, 59, 60, 61, 62, 63, 64, 65, 66, 67, 68, 69, 70, 71, 72, 73, 74, 75, 76, 77, 78, 79, 80, 81, 82, 83, 84, 85, 86, 87, 88, 89, 90, 91, 92, 93, 94, 95, 96, 97, 98, 99, 100, 101, 102, 103, 104, 105, 106, 107, 108, 109, 110, 111, 112, 113, 114, 115, 116, 117, 118, 119, 120, 121, 122, 123, 124, 125, 126, 127, 128, 129, 130, 131] c3_22))))))⟩ [.agg #[.int .i64 x0_0, .int .i64 x0_1], .int .i64 x1, .int .i64 x2, .int .i64 x3] [] =
  (Option.bind (L.call 11 [.agg #[.int .i64 x0_0, .int .i64 x0_1]] []) fun r_1 =>
    (Option.bind (aggOf? 2 r_1.1) fun cs_2 =>
    (Option.bind (intOf? .i64 (cs_2[0]?)) fun x_3 =>
    (Option.bind (intOf? .i64 (cs_2[1]?)) fun x_4 =>
    (Option.bind (L.call 12 [.agg #[.int .i64 x0_0, .int .i64 x0_1]] []) fun r_5 =>
    (Option.bind (boolOf? (some r_5.1)) fun q_6 =>
    (if q_6 = true
    then (if (decide (x0_0 > 40)) = true
      then (Option.bind (L.call 13 [] []) fun r_7 =>
        (Option.bind (boolOf? (some r_7.1)) fun q_8 =>
        some (.bool q_8, ([AObj.cells [.int .i64 x0_0, .int .i64 x0_1] ⟨false, 0⟩, AObj.cells [.int .i64 x_3, .int .i64 x_4] ⟨false, 1⟩] : AMem))))
      else (if (decide (x0_1 > 10)) = true
        then (Option.bind (L.call 13 [] []) fun r_9 =>
          (Option.bind (boolOf? (some r_9.1)) fun q_10 =>
          some (.bool q_10, ([AObj.cells [.int .i64 x0_0, .int .i64 x0_1] ⟨false, 0⟩, AObj.cells [.int .i64 x_3, .int .i64 x_4] ⟨false, 1⟩] : AMem))))
        else (Option.bind (L.call 14 [.agg #[.int .i64 x0_0, .int .i64 x0_1]] ([AObj.cells [.int .i64 x0_0, .int .i64 x0_1] ⟨false, 0⟩, AObj.cells [.int .i64 x_3, .int .i64 x_4] ⟨false, 1⟩] : AMem)) fun r_11 =>
          (Option.bind (sliceOf? (some r_11.1)) fun s_12 =>
          (Option.bind (AMem.wr (r_11.2 ++ [AObj.cells [.int .i64 0, .int .i64 0, .int .i64 0] ⟨false, 0⟩]) (List.length r_11.2) 0 [.int .i64 0, .int .i64 0, .int .i64 0]) fun M_13 =>
          (if (decide (x3 ≥ 0)) = true
          then (if (decide (x3 < (Int.ofNat s_12.2.1))) = true
            then (match s_12.1 with
              | some a_14 => (if 0 ≤ x3 ∧ x3 < (Int.ofNat s_12.2.1)
                then (Option.bind (intOf? .i64 (AMem.ld M_13 a_14.block (a_14.off + ((Int.toNat x3) * 3)))) fun x_15 =>
                  (match s_12.1 with
                  | some a_16 => (if 0 ≤ x3 ∧ x3 < (Int.ofNat s_12.2.1)
                    then (Option.bind (intOf? .i64 (AMem.ld M_13 a_16.block ((a_16.off + ((Int.toNat x3) * 3)) + 1))) fun x_17 =>
                      (match s_12.1 with
                      | some a_18 => (if 0 ≤ x3 ∧ x3 < (Int.ofNat s_12.2.1)
                        then (Option.bind (intOf? .i64 (AMem.ld M_13 a_18.block ((a_18.off + ((Int.toNat x3) * 3)) + 2))) fun x_19 =>
                          (Option.bind (AMem.wr M_13 (List.length r_11.2) 0 [.int .i64 x_15, .int .i64 x_17, .int .i64 x_19]) fun M_20 =>
                          code L c3_22 (retK [.tmp 8]) [junk, .int .i64 x1, .int .i64 x2, .int .i64 x3, .pointer (some ⟨0, 0, none⟩), junk, junk, junk, junk, .pointer (some ⟨1, 0, none⟩), .slice s_12.1 s_12.2.1 s_12.2.2, .pointer (some ⟨(List.length r_11.2), 0, none⟩), junk, junk, junk, junk, junk, junk, junk, junk, junk, junk, junk, junk, junk, junk, junk, junk, junk, junk, junk, junk, junk, junk, junk, junk, junk, junk, junk, junk, junk, junk, junk, junk, junk, junk, junk, junk, junk, junk, junk, junk, junk, junk, junk, junk, junk, junk, junk, junk, junk, junk, junk, junk, junk, junk, junk, junk, junk, junk, junk, junk, junk, junk, junk, junk, junk, junk, junk, junk, junk, junk, junk, junk, junk, junk, junk, junk, junk, junk, junk, junk, junk, junk, junk, junk, junk, junk, junk, junk, junk, junk, junk, junk, junk, junk, junk, junk, junk, junk, junk, junk, junk, junk, junk, junk, junk, junk, junk, junk, junk, junk, junk, junk, junk, junk, junk, junk, junk, junk, junk, junk] M_20))
                        else none)
                      | none => none))
                    else none)
                  | none => none))
                else none)
              | none => none)
            else code L c3_22 (retK [.tmp 8]) [junk, .int .i64 x1, .int .i64 x2, .int .i64 x3, .pointer (some ⟨0, 0, none⟩), junk, junk, junk, junk, .pointer (some ⟨1, 0, none⟩), .slice s_12.1 s_12.2.1 s_12.2.2, .pointer (some ⟨(List.length r_11.2), 0, none⟩), junk, junk, junk, junk, junk, junk, junk, junk, junk, junk, junk, junk, junk, junk, junk, junk, junk, junk, junk, junk, junk, junk, junk, junk, junk, junk, junk, junk, junk, junk, junk, junk, junk, junk, junk, junk, junk, junk, junk, junk, junk, junk, junk, junk, junk, junk, junk, junk, junk, junk, junk, junk, junk, junk, junk, junk, junk, junk, junk, junk, junk, junk, junk, junk, junk, junk, junk, junk, junk, junk, junk, junk, junk, junk, junk, junk, junk, junk, junk, junk, junk, junk, junk, junk, junk, junk, junk, junk, junk, junk, junk, junk, junk, junk, junk, junk, junk, junk, junk, junk, junk, junk, junk, junk, junk, junk, junk, junk, junk, junk, junk, junk, junk, junk, junk, junk, junk, junk, junk, junk] M_13)
          else code L c3_22 (retK [.tmp 8]) [junk, .int .i64 x1, .int .i64 x2, .int .i64 x3, .pointer (some ⟨0, 0, none⟩), junk, junk, junk, junk, .pointer (some ⟨1, 0, none⟩), .slice s_12.1 s_12.2.1 s_12.2.2, .pointer (some ⟨(List.length r_11.2), 0, none⟩), junk, junk, junk, junk, junk, junk, junk, junk, junk, junk, junk, junk, junk, junk, junk, junk, junk, junk, junk, junk, junk, junk, junk, junk, junk, junk, junk, junk, junk, junk, junk, junk, junk, junk, junk, junk, junk, junk, junk, junk, junk, junk, junk, junk, junk, junk, junk, junk, junk, junk, junk, junk, junk, junk, junk, junk, junk, junk, junk, junk, junk, junk, junk, junk, junk, junk, junk, junk, junk, junk, junk, junk, junk, junk, junk, junk, junk, junk, junk, junk, junk, junk, junk, junk, junk, junk, junk, junk, junk, junk, junk, junk, junk, junk, junk, junk, junk, junk, junk, junk, junk, junk, junk, junk, junk, junk, junk, junk, junk, junk, junk, junk, junk, junk, junk, junk, junk, junk, junk, junk] M_13))))))
    else (Option.bind (L.call 14 [.agg #[.int .i64 x0_0, .int .i64 x0_1]] ([AObj.cells [.int .i64 x0_0, .int .i64 x0_1] ⟨false, 0⟩, AObj.cells [.int .i64 x_3, .int .i64 x_4] ⟨false, 1⟩] : AMem)) fun r_21 =>
      (Option.bind (sliceOf? (some r_21.1)) fun s_22 =>
      (Option.bind (AMem.wr (r_21.2 ++ [AObj.cells [.int .i64 0, .int .i64 0, .int .i64 0] ⟨false, 0⟩]) (List.length r_21.2) 0 [.int .i64 0, .int .i64 0, .int .i64 0]) fun M_23 =>
      (if (decide (x3 ≥ 0)) = true
      then (if (decide (x3 < (Int.ofNat s_22.2.1))) = true
        then (match s_22.1 with
          | some a_24 => (if 0 ≤ x3 ∧ x3 < (Int.ofNat s_22.2.1)
            then (Option.bind (intOf? .i64 (AMem.ld M_23 a_24.block (a_24.off + ((Int.toNat x3) * 3)))) fun x_25 =>
              (match s_22.1 with
              | some a_26 => (if 0 ≤ x3 ∧ x3 < (Int.ofNat s_22.2.1)
                then (Option.bind (intOf? .i64 (AMem.ld M_23 a_26.block ((a_26.off + ((Int.toNat x3) * 3)) + 1))) fun x_27 =>
                  (match s_22.1 with
                  | some a_28 => (if 0 ≤ x3 ∧ x3 < (Int.ofNat s_22.2.1)
                    then (Option.bind (intOf? .i64 (AMem.ld M_23 a_28.block ((a_28.off + ((Int.toNat x3) * 3)) + 2))) fun x_29 =>
                      (Option.bind (AMem.wr M_23 (List.length r_21.2) 0 [.int .i64 x_25, .int .i64 x_27, .int .i64 x_29]) fun M_30 =>
                      code L c3_22 (retK [.tmp 8]) [junk, .int .i64 x1, .int .i64 x2, .int .i64 x3, .pointer (some ⟨0, 0, none⟩), junk, junk, junk, junk, .pointer (some ⟨1, 0, none⟩), .slice s_22.1 s_22.2.1 s_22.2.2, .pointer (some ⟨(List.length r_21.2), 0, none⟩), junk, junk, junk, junk, junk, junk, junk, junk, junk, junk, junk, junk, junk, junk, junk, junk, junk, junk, junk, junk, junk, junk, junk, junk, junk, junk, junk, junk, junk, junk, junk, junk, junk, junk, junk, junk, junk, junk, junk, junk, junk, junk, junk, junk, junk, junk, junk, junk, junk, junk, junk, junk, junk, junk, junk, junk, junk, junk, junk, junk, junk, junk, junk, junk, junk, junk, junk, junk, junk, junk, junk, junk, junk, junk, junk, junk, junk, junk, junk, junk, junk, junk, junk, junk, junk, junk, junk, junk, junk, junk, junk, junk, junk, junk, junk, junk, junk, junk, junk, junk, junk, junk, junk, junk, junk, junk, junk, junk, junk, junk, junk, junk, junk, junk, junk, junk, junk, junk, junk, junk] M_30))
                    else none)
                  | none => none))
                else none)
              | none => none))
            else none)
          | none => none)
        else code L c3_22 (retK [.tmp 8]) [junk, .int .i64 x1, .int .i64 x2, .int .i64 x3, .pointer (some ⟨0, 0, none⟩), junk, junk, junk, junk, .pointer (some ⟨1, 0, none⟩), .slice s_22.1 s_22.2.1 s_22.2.2, .pointer (some ⟨(List.length r_21.2), 0, none⟩), junk, junk, junk, junk, junk, junk, junk, junk, junk, junk, junk, junk, junk, junk, junk, junk, junk, junk, junk, junk, junk, junk, junk, junk, junk, junk, junk, junk, junk, junk, junk, junk, junk, junk, junk, junk, junk, junk, junk, junk, junk, junk, junk, junk, junk, junk, junk, junk, junk, junk, junk, junk, junk, junk, junk, junk, junk, junk, junk, junk, junk, junk, junk, junk, junk, junk, junk, junk, junk, junk, junk, junk, junk, junk, junk, junk, junk, junk, junk, junk, junk, junk, junk, junk, junk, junk, junk, junk, junk, junk, junk, junk, junk, junk, junk, junk, junk, junk, junk, junk, junk, junk, junk, junk, junk, junk, junk, junk, junk, junk, junk, junk, junk, junk, junk, junk, junk, junk, junk, junk] M_23)
      else code L c3_22 (retK [.tmp 8]) [junk, .int .i64 x1, .int .i64 x2, .int .i64 x3, .pointer (some ⟨0, 0, none⟩), junk, junk, junk, junk, .pointer (some ⟨1, 0, none⟩), .slice s_22.1 s_22.2.1 s_22.2.2, .pointer (some ⟨(List.length r_21.2), 0, none⟩), junk, junk, junk, junk, junk, junk, junk, junk, junk, junk, junk, junk, junk, junk, junk, junk, junk, junk, junk, junk, junk, junk, junk, junk, junk, junk, junk, junk, junk, junk, junk, junk, junk, junk, junk, junk, junk, junk, junk, junk, junk, junk, junk, junk, junk, junk, junk, junk, junk, junk, junk, junk, junk, junk, junk, junk, junk, junk, junk, junk, junk, junk, junk, junk, junk, junk, junk, junk, junk, junk, junk, junk, junk, junk, junk, junk, junk, junk, junk, junk, junk, junk, junk, junk, junk, junk, junk, junk, junk, junk, junk, junk, junk, junk, junk, junk, junk, junk, junk, junk, junk, junk, junk, junk, junk, junk, junk, junk, junk, junk, junk, junk, junk, junk, junk, junk, junk, junk, junk, junk] M_23))))))))))) := by kernel_rfl
theorem QE3 (L : Rec) (P3_22 : Rec → Int → Int → Int → (Option Addr) → Nat → Nat → Nat → AMem → Res) (hP3_22 : P3_22 = fun (L : Rec) (x1 : Int) (x2 : Int) (x3 : Int) (x10 : Option Addr) (x10n : Nat) (x10c : Nat) (x11 : Nat) (M : AMem) => code L c3_22 (k3_22 L) (s3_22 x1 x2 x3 x10 x10n x10c x11 M) M) (x0_0 : Int) (x0_1 : Int) (x1 : Int) (x2 : Int) (x3 : Int) : enterF L a3 [.agg #[.int .i64 x0_0, .int .i64 x0_1], .int .i64 x1, .int .i64 x2, .int .i64 x3] [] =
  (Option.bind (L.call 11 [.agg #[.int .i64 x0_0, .int .i64 x0_1]] []) fun r_1 =>
    (Option.bind (aggOf? 2 r_1.1) fun cs_2 =>
    (Option.bind (intOf? .i64 (cs_2[0]?)) fun x_3 =>
    (Option.bind (intOf? .i64 (cs_2[1]?)) fun x_4 =>
    (Option.bind (L.call 12 [.agg #[.int .i64 x0_0, .int .i64 x0_1]] []) fun r_5 =>
    (Option.bind (boolOf? (some r_5.1)) fun q_6 =>
    (if q_6 = true
    then (if (decide (x0_0 > 40)) = true
      then (Option.bind (L.call 13 [] []) fun r_7 =>
        (Option.bind (boolOf? (some r_7.1)) fun q_8 =>
        some (.bool q_8, ([AObj.cells [.int .i64 x0_0, .int .i64 x0_1] ⟨false, 0⟩, AObj.cells [.int .i64 x_3, .int .i64 x_4] ⟨false, 1⟩] : AMem))))
      else (if (decide (x0_1 > 10)) = true
        then (Option.bind (L.call 13 [] []) fun r_9 =>
          (Option.bind (boolOf? (some r_9.1)) fun q_10 =>
          some (.bool q_10, ([AObj.cells [.int .i64 x0_0, .int .i64 x0_1] ⟨false, 0⟩, AObj.cells [.int .i64 x_3, .int .i64 x_4] ⟨false, 1⟩] : AMem))))
        else (Option.bind (L.call 14 [.agg #[.int .i64 x0_0, .int .i64 x0_1]] ([AObj.cells [.int .i64 x0_0, .int .i64 x0_1] ⟨false, 0⟩, AObj.cells [.int .i64 x_3, .int .i64 x_4] ⟨false, 1⟩] : AMem)) fun r_11 =>
          (Option.bind (sliceOf? (some r_11.1)) fun s_12 =>
          (Option.bind (AMem.wr (r_11.2 ++ [AObj.cells [.int .i64 0, .int .i64 0, .int .i64 0] ⟨false, 0⟩]) (List.length r_11.2) 0 [.int .i64 0, .int .i64 0, .int .i64 0]) fun M_13 =>
          (if (decide (x3 ≥ 0)) = true
          then (if (decide (x3 < (Int.ofNat s_12.2.1))) = true
            then (match s_12.1 with
              | some a_14 => (if 0 ≤ x3 ∧ x3 < (Int.ofNat s_12.2.1)
                then (Option.bind (intOf? .i64 (AMem.ld M_13 a_14.block (a_14.off + ((Int.toNat x3) * 3)))) fun x_15 =>
                  (match s_12.1 with
                  | some a_16 => (if 0 ≤ x3 ∧ x3 < (Int.ofNat s_12.2.1)
                    then (Option.bind (intOf? .i64 (AMem.ld M_13 a_16.block ((a_16.off + ((Int.toNat x3) * 3)) + 1))) fun x_17 =>
                      (match s_12.1 with
                      | some a_18 => (if 0 ≤ x3 ∧ x3 < (Int.ofNat s_12.2.1)
                        then (Option.bind (intOf? .i64 (AMem.ld M_13 a_18.block ((a_18.off + ((Int.toNat x3) * 3)) + 2))) fun x_19 =>
                          (Option.bind (AMem.wr M_13 (List.length r_11.2) 0 [.int .i64 x_15, .int .i64 x_17, .int .i64 x_19]) fun M_20 =>
                          P3_22 L x1 x2 x3 s_12.1 s_12.2.1 s_12.2.2 (List.length r_11.2) M_20))
                        else none)
                      | none => none))
                    else none)
                  | none => none))
                else none)
              | none => none)
            else P3_22 L x1 x2 x3 s_12.1 s_12.2.1 s_12.2.2 (List.length r_11.2) M_13)
          else P3_22 L x1 x2 x3 s_12.1 s_12.2.1 s_12.2.2 (List.length r_11.2) M_13))))))
    else (Option.bind (L.call 14 [.agg #[.int .i64 x0_0, .int .i64 x0_1]] ([AObj.cells [.int .i64 x0_0, .int .i64 x0_1] ⟨false, 0⟩, AObj.cells [.int .i64 x_3, .int .i64 x_4] ⟨false, 1⟩] : AMem)) fun r_21 =>
      (Option.bind (sliceOf? (some r_21.1)) fun s_22 =>
      (Option.bind (AMem.wr (r_21.2 ++ [AObj.cells [.int .i64 0, .int .i64 0, .int .i64 0] ⟨false, 0⟩]) (List.length r_21.2) 0 [.int .i64 0, .int .i64 0, .int .i64 0]) fun M_23 =>
      (if (decide (x3 ≥ 0)) = true
      then (if (decide (x3 < (Int.ofNat s_22.2.1))) = true
        then (match s_22.1 with
          | some a_24 => (if 0 ≤ x3 ∧ x3 < (Int.ofNat s_22.2.1)
            then (Option.bind (intOf? .i64 (AMem.ld M_23 a_24.block (a_24.off + ((Int.toNat x3) * 3)))) fun x_25 =>
              (match s_22.1 with
              | some a_26 => (if 0 ≤ x3 ∧ x3 < (Int.ofNat s_22.2.1)
                then (Option.bind (intOf? .i64 (AMem.ld M_23 a_26.block ((a_26.off + ((Int.toNat x3) * 3)) + 1))) fun x_27 =>
                  (match s_22.1 with
                  | some a_28 => (if 0 ≤ x3 ∧ x3 < (Int.ofNat s_22.2.1)
                    then (Option.bind (intOf? .i64 (AMem.ld M_23 a_28.block ((a_28.off + ((Int.toNat x3) * 3)) + 2))) fun x_29 =>
                      (Option.bind (AMem.wr M_23 (List.length r_21.2) 0 [.int .i64 x_25, .int .i64 x_27, .int .i64 x_29]) fun M_30 =>
                      P3_22 L x1 x2 x3 s_22.1 s_22.2.1 s_22.2.2 (List.length r_21.2) M_30))
                    else none)
                  | none => none))
                else none)
              | none => none))
            else none)
          | none => none)
        else P3_22 L x1 x2 x3 s_22.1 s_22.2.1 s_22.2.2 (List.length r_21.2) M_23)
      else P3_22 L x1 x2 x3 s_22.1 s_22.2.1 s_22.2.2 (List.length r_21.2) M_23))))))))))) := by
  subst hP3_22; exact Eq.mp (by kernel_rfl) (GE3 L c3_22 x0_0 x0_1 x1 x2 x3)
theorem E3 (L : Rec) (x0_0 : Int) (x0_1 : Int) (x1 : Int) (x2 : Int) (x3 : Int) : enterF L a3 [.agg #[.int .i64 x0_0, .int .i64 x0_1], .int .i64 x1, .int .i64 x2, .int .i64 x3] [] =
  (Option.bind (L.call 11 [.agg #[.int .i64 x0_0, .int .i64 x0_1]] []) fun r_1 =>
    (Option.bind (aggOf? 2 r_1.1) fun cs_2 =>
    (Option.bind (intOf? .i64 (cs_2[0]?)) fun x_3 =>
    (Option.bind (intOf? .i64 (cs_2[1]?)) fun x_4 =>
    (Option.bind (L.call 12 [.agg #[.int .i64 x0_0, .int .i64 x0_1]] []) fun r_5 =>
    (Option.bind (boolOf? (some r_5.1)) fun q_6 =>
    (if q_6 = true
    then (if (decide (x0_0 > 40)) = true
      then (Option.bind (L.call 13 [] []) fun r_7 =>
        (Option.bind (boolOf? (some r_7.1)) fun q_8 =>
        some (.bool q_8, ([AObj.cells [.int .i64 x0_0, .int .i64 x0_1] ⟨false, 0⟩, AObj.cells [.int .i64 x_3, .int .i64 x_4] ⟨false, 1⟩] : AMem))))
      else (if (decide (x0_1 > 10)) = true
        then (Option.bind (L.call 13 [] []) fun r_9 =>
          (Option.bind (boolOf? (some r_9.1)) fun q_10 =>
          some (.bool q_10, ([AObj.cells [.int .i64 x0_0, .int .i64 x0_1] ⟨false, 0⟩, AObj.cells [.int .i64 x_3, .int .i64 x_4] ⟨false, 1⟩] : AMem))))
        else (Option.bind (L.call 14 [.agg #[.int .i64 x0_0, .int .i64 x0_1]] ([AObj.cells [.int .i64 x0_0, .int .i64 x0_1] ⟨false, 0⟩, AObj.cells [.int .i64 x_3, .int .i64 x_4] ⟨false, 1⟩] : AMem)) fun r_11 =>
          (Option.bind (sliceOf? (some r_11.1)) fun s_12 =>
          (Option.bind (AMem.wr (r_11.2 ++ [AObj.cells [.int .i64 0, .int .i64 0, .int .i64 0] ⟨false, 0⟩]) (List.length r_11.2) 0 [.int .i64 0, .int .i64 0, .int .i64 0]) fun M_13 =>
          (if (decide (x3 ≥ 0)) = true
          then (if (decide (x3 < (Int.ofNat s_12.2.1))) = true
            then (match s_12.1 with
              | some a_14 => (if 0 ≤ x3 ∧ x3 < (Int.ofNat s_12.2.1)
                then (Option.bind (intOf? .i64 (AMem.ld M_13 a_14.block (a_14.off + ((Int.toNat x3) * 3)))) fun x_15 =>
                  (match s_12.1 with
                  | some a_16 => (if 0 ≤ x3 ∧ x3 < (Int.ofNat s_12.2.1)
                    then (Option.bind (intOf? .i64 (AMem.ld M_13 a_16.block ((a_16.off + ((Int.toNat x3) * 3)) + 1))) fun x_17 =>
                      (match s_12.1 with
                      | some a_18 => (if 0 ≤ x3 ∧ x3 < (Int.ofNat s_12.2.1)
                        then (Option.bind (intOf? .i64 (AMem.ld M_13 a_18.block ((a_18.off + ((Int.toNat x3) * 3)) + 2))) fun x_19 =>
                          (Option.bind (AMem.wr M_13 (List.length r_11.2) 0 [.int .i64 x_15, .int .i64 x_17, .int .i64 x_19]) fun M_20 =>
                          P3_22 L x1 x2 x3 s_12.1 s_12.2.1 s_12.2.2 (List.length r_11.2) M_20))
                        else none)
                      | none => none))
                    else none)
                  | none => none))
                else none)
              | none => none)
            else P3_22 L x1 x2 x3 s_12.1 s_12.2.1 s_12.2.2 (List.length r_11.2) M_13)
          else P3_22 L x1 x2 x3 s_12.1 s_12.2.1 s_12.2.2 (List.length r_11.2) M_13))))))
    else (Option.bind (L.call 14 [.agg #[.int .i64 x0_0, .int .i64 x0_1]] ([AObj.cells [.int .i64 x0_0, .int .i64 x0_1] ⟨false, 0⟩, AObj.cells [.int .i64 x_3, .int .i64 x_4] ⟨false, 1⟩] : AMem)) fun r_21 =>
      (Option.bind (sliceOf? (some r_21.1)) fun s_22 =>
      (Option.bind (AMem.wr (r_21.2 ++ [AObj.cells [.int .i64 0, .int .i64 0, .int .i64 0] ⟨false, 0⟩]) (List.length r_21.2) 0 [.int .i64 0, .int .i64 0, .int .i64 0]) fun M_23 =>
      (if (decide (x3 ≥ 0)) = true
      then (if (decide (x3 < (Int.ofNat s_22.2.1))) = true
        then (match s_22.1 with
          | some a_24 => (if 0 ≤ x3 ∧ x3 < (Int.ofNat s_22.2.1)
            then (Option.bind (intOf? .i64 (AMem.ld M_23 a_24.block (a_24.off + ((Int.toNat x3) * 3)))) fun x_25 =>
              (match s_22.1 with
              | some a_26 => (if 0 ≤ x3 ∧ x3 < (Int.ofNat s_22.2.1)
                then (Option.bind (intOf? .i64 (AMem.ld M_23 a_26.block ((a_26.off + ((Int.toNat x3) * 3)) + 1))) fun x_27 =>
                  (match s_22.1 with
                  | some a_28 => (if 0 ≤ x3 ∧ x3 < (Int.ofNat s_22.2.1)
                    then (Option.bind (intOf? .i64 (AMem.ld M_23 a_28.block ((a_28.off + ((Int.toNat x3) * 3)) + 2))) fun x_29 =>
                      (Option.bind (AMem.wr M_23 (List.length r_21.2) 0 [.int .i64 x_25, .int .i64 x_27, .int .i64 x_29]) fun M_30 =>
                      P3_22 L x1 x2 x3 s_22.1 s_22.2.1 s_22.2.2 (List.length r_21.2) M_30))
                    else none)
                  | none => none))
                else none)
              | none => none))
            else none)
          | none => none)
        else P3_22 L x1 x2 x3 s_22.1 s_22.2.1 s_22.2.2 (List.length r_21.2) M_23)
      else P3_22 L x1 x2 x3 s_22.1 s_22.2.1 s_22.2.2 (List.length r_21.2) M_23))))))))))) := QE3 L P3_22 (Classical.choose_spec XP3_22) x0_0 x0_1 x1 x2 x3
end Go.Proofs.Ytaepdefnomcllaa
