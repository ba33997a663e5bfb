/- Part 4 of the proof: CodeFPartA, CodeF, Code, EqComb, EqHue, EqLayout, Layout, AxD, EntP, CombP, CombQ, WPut. -/
import Derived.Test.YtbclhglmdhojdaaGreatZwC
set_option linter.unusedVariables false
set_option linter.unusedSimpArgs false
set_option maxRecDepth 100000
namespace Go.Proofs.YtbclhglmdhojdaaGreat
open Go Go.Ax
def mT (a b : Nat) : AOper := ⟨some a, .mv (.tmp b), none⟩
def mC (a : Nat) (v : Value) : AOper := ⟨some a, .mv (.const v), none⟩
def mG (a b g : Nat) (t : Bool) : AOper := ⟨some a, .mv (.tmp b), some (g, t)⟩
def fA (a i b : Nat) : AOper := ⟨some a, .fieldAddr i (.tmp b), none⟩
def fG (a i b g : Nat) (t : Bool) : AOper := ⟨some a, .fieldAddr i (.tmp b), some (g, t)⟩
def nC (a b : Nat) : AOper := ⟨some a, .nilCheck (.tmp b), none⟩
def lI (a b : Nat) : AOper := ⟨some a, .load false [.int .i64] (.tmp b), none⟩
def lS (a b : Nat) : AOper := ⟨some a, .load false [.slice] (.tmp b), none⟩
def lP (a b : Nat) : AOper := ⟨some a, .load false [.ptr] (.tmp b), none⟩
def pT (a b c : Nat) : AOper := ⟨some a, .pick (.tmp b) (.const (.bool true)) (.tmp c), none⟩
def pF (a b c : Nat) : AOper := ⟨some a, .pick (.tmp b) (.tmp c) (.const (.bool false)), none⟩
def lG (a b g : Nat) (t : Bool) : AOper := ⟨some a, .load false [.int .i64] (.tmp b), some (g, t)⟩
def l2 (a b : Nat) : AOper := ⟨some a, .load true [.int .i64, .int .i64] (.tmp b), none⟩
def b2 (a : Nat) (o : BinOp) (b c : Nat) : AOper := ⟨some a, .bin o (.tmp b) (.tmp c), none⟩
def bC (a : Nat) (o : BinOp) (b : Nat) (c : Int) : AOper := ⟨some a, .bin o (.tmp b) (.const (.int .i64 c)), none⟩
def bH2 (a : Nat) (o : BinOp) (b c g : Nat) (t : Bool) : AOper := ⟨some a, .bin o (.tmp b) (.tmp c), some (g, t)⟩
def bGC (a : Nat) (o : BinOp) (b : Nat) (c : Int) (g : Nat) (t : Bool) : AOper := ⟨some a, .bin o (.tmp b) (.const (.int .i64 c)), some (g, t)⟩
def ln (a b : Nat) : AOper := ⟨some a, .len (.tmp b), none⟩
def bx (a b : Nat) : AOper := ⟨some a, .box (.tmp b), none⟩
def iA (a e b c : Nat) : AOper := ⟨some a, .indexAddr e (.tmp b) (.tmp c), none⟩
def xt (a b i : Nat) : AOper := ⟨some a, .extract (.tmp b) i, none⟩
def un (a b : Nat) : AOper := ⟨some a, .un .not (.tmp b), none⟩
def sT (n a b : Nat) : AOper := ⟨none, .store n (.tmp a) (.tmp b), none⟩
def rB : List (Bool × List Leaf) := [(false, [.bool])]
def rI : List (Bool × List Leaf) := [(false, [.int .i64])]
def rS : List (Bool × List Leaf) := [(false, [.slice])]
def rP : List (Bool × List Leaf) := [(false, [.ptr])]
def rE : List (Bool × List Leaf) := [(true, eL)]
def cl (a : Nat) (k : Bool) (f : Nat) (l : List Nat) (r : List (Bool × List Leaf)) : AOper := ⟨some a, .call k (.func f) (l.map .tmp) r true, none⟩
def oN (a : Nat) (x : AOp) : AOper := ⟨some a, x, none⟩
def oG (a : Nat) (x : AOp) (g : Nat) (t : Bool) : AOper := ⟨some a, x, some (g, t)⟩
def oZ (x : AOp) : AOper := ⟨none, x, none⟩
def jk : Nat → List Value → List Value
  | 0, l => l
  | n + 1, l => junk :: jk n l
abbrev HL (L : Rec) : Prop := ∀ b K t A, L.loop b K t A = code L b (loopK L b K) t A
abbrev HB (L : Rec) (b c : ACode) : Prop := ∀ K t A, L.loop b K t A = code L c (loopK L b K) t A
theorem okm {P : Program} {g : FuncId} {a : AFun} {fn : Func} (hf : P.funcs[g]? = some fn) (h : (fn.body, (fn.name == "runtime.NumGoroutine"), fn.ntmps, fn.results.toList.mapM (compRes P), comp P (fn.body.getD .skip)) = (some (fn.body.getD .skip), false, a.ntmps, some a.res, some (erase a.code))) : OkFun P g a := by
  simp only [Prod.mk.injEq] at h
  exact ⟨fn, _, hf, h.1, h.2.1, h.2.2.1, h.2.2.2.1, h.2.2.2.2⟩
noncomputable def hid.{u} {α : Sort u} (a : α) : α := Classical.choose (⟨a, rfl⟩ : ∃ x, x = a)
theorem hE.{u} {α : Sort u} (a : α) : hid a = a := Classical.choose_spec (⟨a, rfl⟩ : ∃ x, x = a)
theorem csp.{u} {α : Sort u} {p : α → Prop} (h : ∃ x, p x) : p (Classical.choose h) := Classical.choose_spec h
def zl0 : List Nat := [0] ++ rg 7 6 ++ [14] ++ rg 19 45 ++ rg 65 204
def zl1 : List Nat := [0] ++ rg 7 6 ++ [14] ++ rg 20 249
def zl2 : List Nat := [0] ++ rg 7 6 ++ [14] ++ rg 19 250
def zl3 : List Nat := rg 0 5 ++ rg 6 7 ++ [14, 18, 19] ++ rg 22 164 ++ rg 187 82
def zl4 : List Nat := rg 0 5 ++ rg 6 7 ++ [14, 18, 19, 22, 23] ++ rg 25 244
def zl5 : List Nat := rg 0 5 ++ rg 6 7 ++ [14, 18, 19] ++ rg 24 245
def zl6 : List Nat := rg 0 5 ++ rg 6 7 ++ [14, 18, 19] ++ rg 21 248
def zl7 : List Nat := rg 0 13 ++ [14] ++ rg 16 237 ++ rg 254 15
def zl8 : List Nat := rg 0 13 ++ [14] ++ rg 17 252
def zl9 : List Nat := [0] ++ rg 7 41 ++ rg 49 220
def zl10 : List Nat := rg 0 5 ++ rg 6 7 ++ [14] ++ rg 18 251
def zl11 : List Nat := rg 3 4 ++ rg 9 22
def zl12 : List Nat := rg 3 4 ++ rg 8 23
def zl13 : List Nat := [0] ++ rg 7 56
def zl14 : List Nat := [0, 5] ++ rg 7 56
def zl15 : List Nat := rg 0 4 ++ rg 5 4 ++ rg 10 28 ++ [41, 42, 43] ++ rg 47 17
def zl16 : List Nat := rg 0 4 ++ rg 5 4 ++ rg 10 28 ++ rg 41 23
def zl17 : List Nat := rg 0 9 ++ rg 10 54
def zl18 : List Nat := [0, 1, 2] ++ rg 5 4 ++ rg 11 63
def zl19 : List Nat := [0, 1, 2] ++ rg 5 4 ++ rg 10 64
def zl20 : List Nat := rg 0 74
def zl21 : List Nat := [2, 3] ++ rg 5 82
def zl22 : List Nat := rg 0 4 ++ rg 5 82
def zl23 : List Nat := [2, 3] ++ rg 5 212
def zl24 : List Nat := [1, 2, 3] ++ rg 5 212
def zl25 : List Nat := rg 0 4 ++ rg 5 212
def zl26 : List Nat := [2, 3] ++ rg 5 30 ++ rg 36 181
def zl27 : List Nat := [2, 3, 4] ++ rg 6 35
def zl28 : List Nat := rg 0 41
def zl29 : List Nat := [2, 3, 4] ++ rg 6 20
def zl30 : List Nat := rg 0 26
def zl31 : List Nat := rg 0 4 ++ [5, 6, 7] ++ rg 9 46
def zl32 : List Nat := rg 1 28
def zl33 : List Nat := rg 0 29
def zl34 : List Nat := [1, 2] ++ rg 4 8 ++ rg 15 18
def zl35 : List Nat := [0, 1, 2] ++ rg 4 29
def zl36 : List Nat := rg 0 4 ++ rg 5 59
def zl37 : List Nat := [1, 2, 3, 5, 6, 8] ++ rg 10 118
def zl38 : List Nat := [2, 3] ++ rg 7 121
def zl39 : List Nat := [2, 3] ++ rg 5 123
def zl40 : List Nat := [1, 2, 4] ++ rg 6 96
def zl41 : List Nat := [1, 2] ++ rg 5 25
def zl42 : List Nat := [0, 1, 2] ++ rg 4 26
def zl43 : List Nat := rg 0 110
def zl44 : List Nat := [0, 1] ++ rg 3 16
def zl45 : List Nat := [0] ++ rg 2 5 ++ rg 9 10
def zl46 : List Nat := rg 0 19
def zl47 : List Nat := rg 0 78
def zl48 : List Nat := [2, 3, 4] ++ rg 7 8 ++ rg 18 40
def zl49 : List Nat := rg 1 4 ++ rg 7 51
def zl50 : List Nat := [0, 4, 5] ++ rg 7 13 ++ rg 23 18 ++ rg 42 11
def zl51 : List Nat := rg 0 6 ++ [7, 8] ++ rg 10 30 ++ rg 42 11
def zl52 : List Nat := rg 0 9 ++ rg 10 43
def zl53 : List Nat := [0, 4, 5] ++ rg 7 34 ++ rg 42 11
def zl54 : List Nat := rg 0 7 ++ rg 8 89 ++ rg 99 14
def zl55 : List Nat := rg 0 113
def zl56 : List Nat := [1, 2, 4] ++ rg 6 107
def zl57 : List Nat := [0, 4, 5, 7] ++ rg 9 65
def zl58 : List Nat := [0, 4, 5] ++ rg 7 67
def zl59 : List Nat := rg 1 68 ++ rg 70 15
def zl60 : List Nat := rg 0 85
def zl61 : List Nat := rg 2 4 ++ rg 9 47
def zl62 : List Nat := rg 0 6 ++ rg 8 48
def zl63 : List Nat := [0, 4, 5, 6] ++ rg 10 52
def zl64 : List Nat := [0, 4, 5, 6] ++ rg 9 53
def zl65 : List Nat := [0, 2, 4, 5, 6] ++ rg 8 54
def zl66 : List Nat := [3, 4, 5] ++ rg 7 9 ++ rg 19 4 ++ rg 25 25
def zl67 : List Nat := rg 3 13 ++ rg 19 31
def zl68 : List Nat := rg 3 47
def o3_1 : List AOper := [bx 6 0, mC 12 (.bool false)]
def o3_4 : List AOper := [l2 27 6, cl 28 true 4 [27] rB, mT 29 28, fG 30 0 6 29 true, lG 31 30 29 true, bGC 32 .gtr 31 12 29 true, mG 33 32 29 true, fG 34 1 6 33 false, lG 35 34 33 false, bGC 36 .gtr 35 4 33 false, oG 37 (.pick (.tmp 33) (.const (.bool true)) (.tmp 36)) 29 true, pF 38 29 37, mT 39 38, mG 40 3 39 false, oG 41 (.call false (.func 5) [.tmp 40, .const (.int .i64 12), .const (.int .i64 24)] rB true) 39 false, oG 42 (.un .not (.tmp 41)) 39 false, pT 43 39 42, mT 44 43, mG 45 5 44 false, oG 46 (.len (.tmp 45)) 44 false, bGC 47 .gtr 46 200 44 false, pT 48 44 47]
def o3_7 : List AOper := [cl 49 true 6 [] rB, mT 12 49]
def c3_5 : ACode := .cond (.tmp 48) (.seq (.ops o3_7) (.ret)) (.skip)
def o3_11 : List AOper := [l2 51 6, cl 52 true 8 [51] rI, oN 53 (.call false (.func 7) [.tmp 52] [(true, [.slice, .int .i64, .int .i64]), (false, [.bool])] false), mT 50 53, xt 54 50 0, xt 55 50 1, oN 13 (.alloc [.slice none 0 0, .int .i64 0, .int .i64 0]), sT 3 13 54, mT 14 55]
def o3_13 : List AOper := [l2 56 6, cl 57 true 8 [56] rI, cl 58 false 9 [57] rP, mT 15 58]
def o3_15 : List AOper := [mC 16 (.slice none 0 0)]
def o3_17 : List AOper := [mC 17 (.slice none 0 0)]
def o3_20 : List AOper := [mC 18 (.int .i64 0)]
def o3_25 : List AOper := [mT 59 18, mT 60 4, oN 61 (.conv .i64 (.tmp 60)), bC 62 .rem 61 4, oN 63 (.bin .add (.const (.int .i64 1)) (.tmp 62)), b2 64 .lss 59 63]
def c3_26 : ACode := .cond (.tmp 64) (.skip) (.exit 0)
def o3_32 : List AOper := [l2 67 6, cl 68 true 11 [67] [(true, [.int .i64, .int .i64])], mT 69 1, mT 70 2, mT 71 3, cl 72 false 10 [68, 69, 70, 71] rP, mT 19 72]
def o3_35 : List AOper := [mT 73 19, oN 74 (.eqNil 0 true (.tmp 73)), l2 75 6, mT 76 1, mT 77 2, mT 78 3, cl 79 false 12 [75, 76, 77, 78] rB, oN 80 (.binB true (.tmp 74) (.tmp 79))]
def o3_38 : List AOper := [mC 12 (.bool false)]
def o3_43 : List AOper := [mT 81 19, oN 82 (.eqNil 0 false (.tmp 81))]
def o3_46 : List AOper := [l2 83 6, cl 84 true 11 [83] [(true, [.int .i64, .int .i64])], mT 85 1, mT 86 2, mT 87 3, cl 88 false 10 [84, 85, 86, 87] rP, cl 89 false 13 [88] rB, mT 90 89, oG 91 (.call true (.func 6) [] rB true) 90 true, pF 92 90 91, mT 12 92]
def o3_50 : List AOper := [mT 93 16, mT 94 19, oN 95 (.buildSlice 1 1 [.pointer none] [(0, 1, .tmp 94)]), oN 96 (.append 1 8 (.tmp 93) (.tmp 95)), mT 16 96]
def o3_51 : List AOper := [mT 97 17, l2 98 6, mT 99 1, mT 100 2, mT 101 3, cl 102 false 14 [98, 99, 100, 101] [(true, [.int .i64, .int .i64, .int .i64, .slice, .int .i64, .int .i64, .slice, .int .i64, .int .i64, .int .i64, .slice, .slice, .bool, .int .i64, .slice, .int .i64, .slice, .int .i64, .bool, .int .u64, .int .i64, .int .i64, .int .i64, .int .i64, .bool, .bool, .int .u64, .int .i64, .int .i64, .bool, .int .i64])], oN 103 (.buildSlice 31 1 [.int .i64 0, .int .i64 0, .int .i64 0, .slice none 0 0, .int .i64 0, .int .i64 0, .slice none 0 0, .int .i64 0, .int .i64 0, .int .i64 0, .slice none 0 0, .slice none 0 0, .bool false, .int .i64 0, .slice none 0 0, .int .i64 0, .slice none 0 0, .int .i64 0, .bool false, .int .u64 0, .int .i64 0, .int .i64 0, .int .i64 0, .int .i64 0, .bool false, .bool false, .int .u64 0, .int .i64 0, .int .i64 0, .bool false, .int .i64 0] [(0, 31, .tmp 102)]), oN 104 (.append 31 336 (.tmp 97) (.tmp 103)), mT 17 104]
def c3_49 : ACode := .seq (.ops o3_50) (.ops o3_51)
def o3_52 : List AOper := [mT 65 18, bC 66 .add 65 1, mT 18 66]
def c3_52 : ACode := .ops o3_52
def b3_22 : ACode := .post (.seq (.seq (.ops o3_25) (.clear zl0 c3_26)) (.seq (.block 1 (.seq (.ops o3_32) (.seq (.seq (.ops o3_35) (.cond (.tmp 80) (.seq (.ops o3_38) (.ret)) (.skip))) (.seq (.seq (.ops o3_43) (.cond (.tmp 82) (.seq (.ops o3_46) (.ret)) (.skip))) (.clear zl1 c3_49))))) (.clear zl2 c3_52))) zl2
def o3_55 : List AOper := [mC 20 (.int .i64 0)]
def o3_60 : List AOper := [mT 105 20, mT 106 5, ln 107 106, b2 108 .lss 105 107]
def o3_67 : List AOper := [mT 111 5, mT 112 20, iA 113 1 111 112, oN 114 (.load false [.int .u8] (.tmp 113)), oN 115 (.conv .i64 (.tmp 114)), mT 116 16, ln 117 116, b2 118 .rem 115 117, mT 21 118]
def o3_69 : List (AOper × Option Nat) := [(mT 119 16, none), (mT 120 21, none), (iA 121 1 119 120, none), (lP 122 121, none), (mT 123 15, none), (cl 124 false 15 [122, 123] rE, none), (mT 125 17, none), (mT 126 21, none), (iA 127 31 125 126, none), (cl 128 false 16 [127, 13] rE, none), (nC 22 22, none), (nC 23 23, none), (sT 5 22 124, none), (sT 5 23 128, none)]
def f3_69 : List AOper := [oN 22 (.alloc ev0), oN 23 (.alloc ev0)]
def o3_72 : List (AOper × Option Nat) := [(fA 129 0 22, none), (lI 130 129, none), (fA 131 0 23, none), (lI 132 131, none), (b2 133 .neq 130 132, none), (mT 134 133, none), (fG 135 1 22 134 false, none), (lG 136 135 134 false, none), (fG 137 1 23 134 false, none), (lG 138 137 134 false, none), (bH2 139 .neq 136 138 134 false, none), (pT 140 134 139, none), (mT 141 140, none), (fG 142 2 22 141 false, none), (lG 143 142 141 false, none), (fG 144 2 23 141 false, none), (lG 145 144 141 false, none), (bH2 146 .neq 143 145 141 false, none), (pT 147 141 146, none), (mT 148 147, none), (fG 149 3 22 148 false, none), (⟨some 150, .load false [.bool] (.tmp 149), some (148, false)⟩, none), (fG 151 3 23 148 false, none), (⟨some 152, .load false [.bool] (.tmp 151), some (148, false)⟩, none), (⟨some 153, .binB true (.tmp 150) (.tmp 152), some (148, false)⟩, none), (pT 154 148 153, none), (mT 155 154, none), (fG 156 4 22 155 false, none), (⟨some 157, .load false [.bool] (.tmp 156), some (155, false)⟩, none), (fG 158 4 23 155 false, none), (⟨some 159, .load false [.bool] (.tmp 158), some (155, false)⟩, none), (⟨some 160, .binB true (.tmp 157) (.tmp 159), some (155, false)⟩, none), (pT 161 155 160, none), (mT 162 161, none), (mG 163 16 162 false, none), (mG 164 21 162 false, none), (⟨some 165, .indexAddr 1 (.tmp 163) (.tmp 164), some (162, false)⟩, none), (⟨some 166, .load false [.ptr] (.tmp 165), some (162, false)⟩, none), (⟨some 167, .call false (.func 13) [.tmp 166] rB true, some (162, false)⟩, none), (mG 168 17 162 false, none), (mG 169 21 162 false, none), (⟨some 170, .indexAddr 31 (.tmp 168) (.tmp 169), some (162, false)⟩, none), (⟨some 171, .call false (.func 17) [.tmp 170] rB true, some (162, false)⟩, none), (⟨some 172, .binB true (.tmp 167) (.tmp 171), some (162, false)⟩, none), (pT 173 162 172, none), (mT 174 173, none), (mG 175 16 174 false, none), (mG 176 21 174 false, none), (⟨some 177, .indexAddr 1 (.tmp 175) (.tmp 176), some (174, false)⟩, none), (⟨some 178, .load false [.ptr] (.tmp 177), some (174, false)⟩, none), (⟨some 179, .call false (.func 18) [.tmp 178] rI true, some (174, false)⟩, none), (mG 180 17 174 false, none), (mG 181 21 174 false, none), (⟨some 182, .indexAddr 31 (.tmp 180) (.tmp 181), some (174, false)⟩, none), (fG 183 30 182 174 false, none), (lG 184 183 174 false, none), (bH2 185 .neq 179 184 174 false, none), (pT 186 174 185, none)]
def o3_75 : List AOper := [mC 12 (.bool false)]
def c3_73 : ACode := .cond (.tmp 186) (.seq (.ops o3_75) (.ret)) (.skip)
def o3_79 : List AOper := [mC 24 (.slice none 0 0)]
def o3_82 : List AOper := [mT 187 17, mT 188 21, iA 189 31 187 188, fA 190 12 189, oN 191 (.load false [.bool] (.tmp 190))]
def o3_84 : List AOper := [mT 192 17, mT 193 21, iA 194 31 192 193, fA 195 14 194, lS 196 195, mT 24 196]
def o3_87 : List AOper := [mT 197 16, mT 198 21, iA 199 1 197 198, lP 200 199, cl 201 false 20 [200] rS, mT 202 24, cl 203 false 19 [201, 202] rB, un 204 203]
def o3_90 : List AOper := [mC 12 (.bool false)]
def c3_86 : ACode := .seq (.ops o3_87) (.cond (.tmp 204) (.seq (.ops o3_90) (.ret)) (.skip))
def c3_70 : ACode := .seq (.seq (.draw [] 0 o3_72 [(55, 50)]) (.clear zl3 c3_73)) (.seq (.ops o3_79) (.seq (.seq (.ops o3_82) (.cond (.tmp 191) (.ops o3_84) (.skip))) (.clear zl4 c3_86)))
def o3_93 : List AOper := [mT 109 20, bC 110 .add 109 1, mT 20 110]
def c3_93 : ACode := .ops o3_93
def b3_57 : ACode := .post (.seq (.seq (.ops o3_60) (.cond (.tmp 108) (.skip) (.exit 2))) (.seq (.block 3 (.seq (.ops o3_67) (.seq (.draw f3_69 0 o3_69 [(10, 5), (10, 9), (11, 5), (11, 9)]) (.clear zl5 c3_70)))) (.clear zl6 c3_93))) zl6
def o3_95 : List AOper := [mC 25 (.pointer none)]
def o3_97 : List AOper := [oN 205 (.build [.int .i64 0, .int .i64 0, .int .i64 0, .slice none 0 0, .int .i64 0, .int .i64 0, .slice none 0 0, .pointer none, .slice none 0 0, .pointer none, .int .i64 0, .slice none 0 0, .pointer none, .int .i64 0] []), bx 206 205, mT 26 206]
def o3_100 : List (AOper × Option Nat) := [(mT 207 25, none), (cl 208 false 13 [207] rB, none), (un 209 208, none), (mT 210 209, none), (mG 211 26 210 false, none), (⟨some 212, .call false (.func 13) [.tmp 211] rB true, some (210, false)⟩, none), (⟨some 213, .un .not (.tmp 212), some (210, false)⟩, none), (pT 214 210 213, none), (mT 215 214, none), (mG 216 25 215 false, none), (mG 217 15 215 false, none), (⟨some 218, .call false (.func 15) [.tmp 216, .tmp 217] rE true, some (215, false)⟩, none), (⟨some 219, .build ev0 [], some (215, false)⟩, none), (⟨some 220, .eqAgg eL true (.tmp 218) (.tmp 219), some (215, false)⟩, none), (pT 221 215 220, none), (mT 222 221, none), (mG 223 26 222 false, none), (mG 224 15 222 false, none), (⟨some 225, .call false (.func 15) [.tmp 223, .tmp 224] rE true, some (222, false)⟩, none), (⟨some 226, .build ev0 [], some (222, false)⟩, none), (⟨some 227, .eqAgg eL true (.tmp 225) (.tmp 226), some (222, false)⟩, none), (pT 228 222 227, none), (mT 229 228, none), (mG 230 25 229 false, none), (⟨some 231, .call false (.func 20) [.tmp 230] rS true, some (229, false)⟩, none), (⟨some 232, .len (.tmp 231), some (229, false)⟩, none), (mG 233 26 229 false, none), (⟨some 234, .call false (.func 20) [.tmp 233] rS true, some (229, false)⟩, none), (⟨some 235, .len (.tmp 234), some (229, false)⟩, none), (bH2 236 .add 232 235 229 false, none), (mG 237 25 229 false, none), (⟨some 238, .call false (.func 18) [.tmp 237] rI true, some (229, false)⟩, none), (bH2 239 .add 236 238 229 false, none), (mG 240 26 229 false, none), (⟨some 241, .call false (.func 18) [.tmp 240] rI true, some (229, false)⟩, none), (bH2 242 .add 239 241 229 false, none), (bGC 243 .neq 242 0 229 false, none), (pT 244 229 243, none), (mT 245 244, none), (mG 246 16 245 false, none), (⟨some 247, .indexAddr 1 (.tmp 246) (.const (.int .i64 0)), some (245, false)⟩, none), (⟨some 248, .load false [.ptr] (.tmp 247), some (245, false)⟩, none), (⟨some 249, .call false (.func 9) [.const (.int .i64 0)] rP true, some (245, false)⟩, none), (⟨some 250, .call false (.func 15) [.tmp 248, .tmp 249] rE true, some (245, false)⟩, none), (⟨some 251, .build ev0 [], some (245, false)⟩, none), (⟨some 252, .eqAgg eL true (.tmp 250) (.tmp 251), some (245, false)⟩, none), (pT 253 245 252, none)]
def o3_103 : List AOper := [mC 12 (.bool false)]
def c3_101 : ACode := .cond (.tmp 253) (.seq (.ops o3_103) (.ret)) (.skip)
def o3_107 : List (AOper × Option Nat) := [(mT 254 15, none), (oN 255 (.call false (.func 22) [.tmp 254, .const (.int .i64 0), .const (.int .i64 1000)] rS true), none), (fA 256 0 13, none), (lS 257 256, none), (cl 258 false 21 [255, 257] rB, none), (mT 259 258, none), (mG 260 15 259 true, none), (⟨some 261, .call false (.func 23) [.tmp 260] rI true, some (259, true)⟩, none), (fG 262 1 13 259 true, none), (lG 263 262 259 true, none), (bH2 264 .eql 261 263 259 true, none), (pF 265 259 264, none), (mT 266 265, none), (⟨some 267, .call true (.func 6) [] rB true, some (266, true)⟩, none), (pF 268 266 267, none), (mT 12 268, none)]
def c3_94 : ACode := .seq (.ops o3_95) (.seq (.ops o3_97) (.seq (.seq (.draw [] 0 o3_100 [(41, 42)]) (.clear zl7 c3_101)) (.seq (.draw [] 0 o3_107 [(3, 1), (9, 7)]) (.ret))))
def c3_53 : ACode := .seq (.seq (.ops o3_55) (.block 2 (.clear zl6 (.loop b3_57)))) (.clear zl8 c3_94)
def c3_0 : ACode := .seq (.ops o3_1) (.seq (.seq (.ops o3_4) (.clear zl9 c3_5)) (.seq (.ops o3_11) (.seq (.ops o3_13) (.seq (.ops o3_15) (.seq (.ops o3_17) (.seq (.seq (.ops o3_20) (.block 0 (.clear zl2 (.loop b3_22)))) (.clear zl10 c3_53)))))))
def a3 : AFun := ⟨269, [.tmp 12], c3_0⟩
theorem ok3 : OkFun Tryz.prog 3 a3 := okm Tryz.func3 (by kernel_rfl)
def o4_1 : List AOper := [bx 1 0, mC 2 (.bool false)]
def o4_3 : List AOper := [fA 3 0 1, lI 4 3, bC 5 .geq 4 1, mT 6 5, fG 7 0 1 6 true, lG 8 7 6 true, bGC 9 .leq 8 65536 6 true, pF 10 6 9, mT 11 10, fG 12 1 1 11 true, lG 13 12 11 true, bGC 14 .geq 13 1 11 true, pF 15 11 14, mT 16 15, fG 17 1 1 16 true, lG 18 17 16 true, bGC 19 .leq 18 256 16 true, pF 20 16 19, mT 2 20]
def c4_0 : ACode := .seq (.ops o4_1) (.seq (.ops o4_3) (.ret))
def a4 : AFun := ⟨21, [.tmp 2], c4_0⟩
theorem ok4 : OkFun Tryz.prog 4 a4 := okm Tryz.func4 (by kernel_rfl)
def o5_1 : List AOper := [mC 6 (.bool false)]
def o5_3 : List AOper := [mC 7 (.int .i64 0)]
def o5_6 : List AOper := [mC 8 (.int .i64 0)]
def o5_11 : List AOper := [mT 9 8, mT 10 0, ln 11 10, b2 12 .lss 9 11]
def o5_17 : List AOper := [mT 15 7, mT 16 0, mT 17 8, iA 18 1 16 17, lS 19 18, ln 20 19, b2 21 .add 15 20, mT 7 21]
def o5_18 : List AOper := [mT 13 8, bC 14 .add 13 1, mT 8 14]
def c5_18 : ACode := .ops o5_18
def b5_8 : ACode := .post (.seq (.seq (.ops o5_11) (.cond (.tmp 12) (.skip) (.exit 0))) (.seq (.block 1 (.ops o5_17)) (.clear zl11 c5_18))) zl11
def o5_20 : List AOper := [mT 22 0, ln 23 22, mT 24 1, b2 25 .leq 23 24, mT 26 25, mG 27 7 26 true, mG 28 2 26 true, bH2 29 .leq 27 28 26 true, pF 30 26 29, mT 6 30]
def c5_19 : ACode := .seq (.ops o5_20) (.ret)
def c5_0 : ACode := .seq (.ops o5_1) (.seq (.ops o5_3) (.seq (.seq (.ops o5_6) (.block 0 (.clear zl11 (.loop b5_8)))) (.clear zl12 c5_19)))
def a5 : AFun := ⟨31, [.tmp 6], c5_0⟩
theorem ok5 : OkFun Tryz.prog 5 a5 := okm Tryz.func5 (by kernel_rfl)
def o6_1 : List AOper := [mC 0 (.bool false)]
def o6_3 : List AOper := [oN 9 (.build [.int .i64 0, .int .i64 0] [(0, 1, .const (.int .i64 1)), (1, 1, .const (.int .i64 1))]), oN 1 (.alloc [.int .i64 0, .int .i64 0]), sT 2 1 9]
def o6_5 : List AOper := [l2 10 1, cl 11 true 24 [10] rI, cl 12 false 9 [11] rP, mT 2 12]
def o6_7 : List AOper := [l2 13 1, oN 14 (.call false (.func 10) [.tmp 13, .const (.int .i64 1), .const (.int .i64 1), .const (.slice none 0 0)] rP true), mT 3 14]
def o6_9 : List AOper := [mT 15 3, mT 16 2, cl 17 false 15 [15, 16] rE, oN 4 (.alloc ev0), sT 5 4 17]
def o6_11 : List AOper := [l2 18 1, oN 19 (.build [.int .i64 0, .int .i64 0, .int .i64 0] [(0, 1, .const (.int .i64 4))]), oN 20 (.build [.int .i64 0, .int .i64 0, .int .i64 0, .int .i64 0] [(1, 3, .tmp 19)]), oN 21 (.buildSlice 4 1 [.int .i64 0, .int .i64 0, .int .i64 0, .int .i64 0] [(0, 4, .tmp 20)]), oN 22 (.buildSlice 1 1 [.slice none 0 0] [(0, 1, .tmp 21)]), oN 23 (.call false (.func 10) [.tmp 18, .const (.int .i64 1), .const (.int .i64 1), .tmp 22] rP true), mT 5 23]
def o6_13 : List AOper := [mC 6 (.int .i64 0)]
def o6_19 : List AOper := [mT 24 6, bC 25 .lss 24 99, mT 26 25, mG 27 5 26 true, oG 28 (.call false (.func 13) [.tmp 27] rB true) 26 true, oG 29 (.un .not (.tmp 28)) 26 true, pF 30 26 29]
def o6_25 : List AOper := [mT 31 5, mT 32 2, cl 33 false 15 [31, 32] rE]
def o6_26 : List AOper := [mT 34 6, bC 35 .add 34 1, mT 6 35]
def b6_16 : ACode := .post (.seq (.seq (.ops o6_19) (.cond (.tmp 30) (.skip) (.exit 0))) (.block 1 (.seq (.ops o6_25) (.ops o6_26)))) zl13
def o6_28 : List AOper := [mT 37 2, l2 38 1, oN 39 (.call true (.func 26) [.tmp 38, .const (.int .i64 0), .const (.int .i64 0)] rI true), oN 40 (.call false (.func 25) [.tmp 37, .tmp 39] [(false, [.int .u64]), (false, [.bool])] false), mT 36 40, xt 41 36 0, xt 42 36 1, mT 7 41, mT 8 42]
def o6_30 : List AOper := [oN 43 (.load true eL (.tmp 4)), oN 44 (.build ev0 [(0, 1, .const (.int .i64 1))]), oN 45 (.eqAgg eL false (.tmp 43) (.tmp 44)), mT 46 45, mG 47 3 46 true, oG 48 (.call false (.func 13) [.tmp 47] rB true) 46 true, pF 49 46 48, mT 50 49, mG 51 6 50 true, bGC 52 .eql 51 10 50 true, pF 53 50 52, mT 54 53, mG 55 7 54 true, oG 56 (.bin .eql (.tmp 55) (.const (.int .u64 4))) 54 true, pF 57 54 56, mT 58 57, oG 59 (.load true [.int .i64, .int .i64] (.tmp 1)) 58 true, oG 60 (.call false (.func 10) [.tmp 59, .const (.int .i64 0), .const (.int .i64 1), .const (.slice none 0 0)] rP true) 58 true, oG 61 (.eqNil 0 false (.tmp 60)) 58 true, pF 62 58 61, mT 0 62]
def c6_27 : ACode := .seq (.ops o6_28) (.seq (.ops o6_30) (.ret))
def c6_0 : ACode := .seq (.ops o6_1) (.seq (.ops o6_3) (.seq (.ops o6_5) (.seq (.ops o6_7) (.seq (.ops o6_9) (.seq (.ops o6_11) (.seq (.ops o6_13) (.seq (.block 0 (.clear zl13 (.loop b6_16))) (.clear zl14 c6_27))))))))
def a6 : AFun := ⟨63, [.tmp 0], c6_0⟩
theorem ok6 : OkFun Tryz.prog 6 a6 := okm Tryz.func6 (by kernel_rfl)
def o7_1 : List AOper := [oN 2 (.alloc [.slice none 0 0, .int .i64 0, .int .i64 0]), mC 3 (.bool false)]
def o7_4 : List AOper := [mT 4 0, bC 5 .lss 4 0, mT 6 5, mG 7 0 6 false, bGC 8 .gtr 7 262144 6 false, pT 9 6 8]
def o7_7 : List AOper := [oN 10 (.build [.slice none 0 0, .int .i64 0, .int .i64 0] []), sT 3 2 10, mC 3 (.bool false)]
def o7_11 : List AOper := [mT 11 0, oN 12 (.makeSlice 1 8 [.int .u64 0] (.tmp 11) (.tmp 11)), oN 13 (.build [.slice none 0 0, .int .i64 0, .int .i64 0] [(0, 1, .tmp 12)]), sT 3 2 13, mC 3 (.bool true)]
def c7_0 : ACode := .seq (.ops o7_1) (.seq (.seq (.ops o7_4) (.cond (.tmp 9) (.seq (.ops o7_7) (.ret)) (.skip))) (.seq (.ops o7_11) (.ret)))
def a7 : AFun := ⟨14, [.cell true [.slice, .int .i64, .int .i64] 2, .tmp 3], c7_0⟩
theorem ok7 : OkFun Tryz.prog 7 a7 := okm Tryz.func7 (by kernel_rfl)
def o8_1 : List AOper := [bx 1 0, mC 2 (.int .i64 0)]
def o8_4 : List AOper := [l2 3 1, cl 4 true 4 [3] rB, un 5 4]
def o8_7 : List AOper := [mC 2 (.int .i64 0)]
def o8_11 : List AOper := [fA 6 1 1, lI 7 6, oN 8 (.bin .mul (.const (.int .i64 2)) (.tmp 7)), oN 9 (.bin .add (.const (.int .i64 1)) (.tmp 8)), fA 10 0 1, lI 11 10, oN 12 (.bin .mul (.const (.int .i64 3)) (.tmp 11)), b2 13 .add 9 12, mT 2 13]
def c8_0 : ACode := .seq (.ops o8_1) (.seq (.seq (.ops o8_4) (.cond (.tmp 5) (.seq (.ops o8_7) (.ret)) (.skip))) (.seq (.ops o8_11) (.ret)))
def a8 : AFun := ⟨14, [.tmp 2], c8_0⟩
theorem ok8 : OkFun Tryz.prog 8 a8 := okm Tryz.func8 (by kernel_rfl)
def o9_1 : List AOper := [mC 2 (.pointer none)]
def o9_4 : List AOper := [mT 3 0, bC 4 .lss 3 0, mT 5 4, mG 6 0 5 false, bGC 7 .gtr 6 262144 5 false, pT 8 5 7]
def o9_7 : List AOper := [mC 2 (.pointer none)]
def o9_11 : List AOper := [mT 9 0, oN 10 (.makeSlice 1 8 [.int .u64 0] (.tmp 9) (.tmp 9)), oN 11 (.build [.bool false, .slice none 0 0, .int .i64 0, .int .i64 0] [(0, 1, .const (.bool true)), (1, 1, .tmp 10)]), bx 12 11, mT 2 12]
def c9_0 : ACode := .seq (.ops o9_1) (.seq (.seq (.ops o9_4) (.cond (.tmp 8) (.seq (.ops o9_7) (.ret)) (.skip))) (.seq (.ops o9_11) (.ret)))
def a9 : AFun := ⟨13, [.tmp 2], c9_0⟩
theorem ok9 : OkFun Tryz.prog 9 a9 := okm Tryz.func9 (by kernel_rfl)
def o10_1 : List AOper := [bx 4 0, mC 8 (.pointer none)]
def o10_3 : List (AOper × Option Nat) := [(l2 14 4, none), (mT 15 1, none), (mT 16 3, none), (l2 17 4, none), (mT 18 2, none), (cl 19 false 27 [17, 18] rP, none), (mT 20 3, none), (ln 21 20, none), (mT 22 1, none), (cl 23 false 28 [21, 22] rP, none), (oN 24 (.build [.int .i64 0, .int .i64 0, .int .i64 0, .slice none 0 0, .int .i64 0, .int .i64 0, .slice none 0 0, .pointer none, .slice none 0 0, .pointer none, .int .i64 0, .slice none 0 0, .pointer none, .int .i64 0] [(0, 2, .tmp 14), (2, 1, .tmp 15), (3, 1, .tmp 16), (7, 1, .tmp 19), (12, 1, .tmp 23)]), none), (bx 25 24, none), (mT 9 25, none)]
def o10_6 : List AOper := [mT 26 9, nC 27 26, fA 28 7 27, lP 29 28, oN 30 (.eqNil 0 false (.tmp 29)), mT 31 30, mG 32 9 31 false, oG 33 (.nilCheck (.tmp 32)) 31 false, fG 34 12 33 31 false, oG 35 (.load false [.ptr] (.tmp 34)) 31 false, oG 36 (.eqNil 0 false (.tmp 35)) 31 false, pT 37 31 36]
def o10_9 : List AOper := [mC 8 (.pointer none)]
def o10_14 : List AOper := [mT 38 3, ln 39 38, mC 40 (.int .i64 0)]
def o10_18 : List AOper := [b2 41 .lss 40 39]
def o10_26 : List AOper := [iA 42 1 38 40, lS 43 42, mT 11 43]
def o10_28 : List AOper := [mT 44 11, ln 45 44, mC 46 (.int .i64 0)]
def o10_32 : List AOper := [b2 47 .lss 46 45]
def o10_40 : List AOper := [iA 48 4 44 46, oN 49 (.load true [.int .i64, .int .i64, .int .i64, .int .i64] (.tmp 48)), oN 13 (.alloc [.int .i64 0, .int .i64 0, .int .i64 0, .int .i64 0]), sT 4 13 49]
def o10_42 : List AOper := [l2 50 4, fA 51 0 13, lI 52 51, cl 53 true 29 [50, 52] rI, bC 54 .lss 53 0, mT 55 54, fG 56 1 13 55 false, oG 57 (.load true [.int .i64, .int .i64, .int .i64] (.tmp 56)) 55 false, oG 58 (.call true (.func 30) [.tmp 57] rB true) 55 false, oG 59 (.un .not (.tmp 58)) 55 false, pT 60 55 59]
def o10_45 : List AOper := [mC 8 (.pointer none)]
def o10_48 : List AOper := [bC 61 .add 46 1, mT 46 61]
def c10_48 : ACode := .ops o10_48
def b10_30 : ACode := .post (.seq (.ops o10_32) (.seq (.cond (.tmp 47) (.skip) (.exit 2)) (.seq (.block 3 (.seq (.ops o10_40) (.seq (.ops o10_42) (.cond (.tmp 60) (.seq (.ops o10_45) (.ret)) (.skip))))) (.clear zl15 c10_48)))) zl15
def o10_49 : List AOper := [bC 62 .add 40 1, mT 40 62]
def c10_49 : ACode := .ops o10_49
def b10_16 : ACode := .post (.seq (.ops o10_18) (.seq (.cond (.tmp 41) (.skip) (.exit 0)) (.seq (.block 1 (.seq (.ops o10_26) (.seq (.ops o10_28) (.block 2 (.clear zl15 (.loop b10_30)))))) (.clear zl16 c10_49)))) zl16
def o10_51 : List AOper := [mT 63 9, mT 8 63]
def c10_50 : ACode := .seq (.ops o10_51) (.ret)
def c10_0 : ACode := .seq (.ops o10_1) (.seq (.draw [] 0 o10_3 [(0, 5), (0, 9)]) (.seq (.seq (.ops o10_6) (.cond (.tmp 37) (.seq (.ops o10_9) (.ret)) (.skip))) (.seq (.seq (.ops o10_14) (.block 0 (.clear zl16 (.loop b10_16)))) (.clear zl17 c10_50))))
def a10 : AFun := ⟨64, [.tmp 8], c10_0⟩
theorem ok10 : OkFun Tryz.prog 10 a10 := okm Tryz.func10 (by kernel_rfl)
def o11_1 : List AOper := [bx 1 0, oN 2 (.alloc [.int .i64 0, .int .i64 0])]
def o11_3 : List AOper := [fA 3 0 1, lI 4 3, fA 5 1 1, lI 6 5, oN 7 (.build [.int .i64 0, .int .i64 0] [(0, 1, .tmp 4), (1, 1, .tmp 6)]), sT 2 2 7]
def c11_0 : ACode := .seq (.ops o11_1) (.seq (.ops o11_3) (.ret))
def a11 : AFun := ⟨8, [.cell true [.int .i64, .int .i64] 2], c11_0⟩
theorem ok11 : OkFun Tryz.prog 11 a11 := okm Tryz.func11 (by kernel_rfl)
def o12_1 : List AOper := [bx 4 0, mC 8 (.bool false)]
def o12_4 : List AOper := [l2 12 4, cl 13 true 4 [12] rB, un 14 13, mT 15 14, mG 16 3 15 false, oG 17 (.len (.tmp 16)) 15 false, bGC 18 .gtr 17 1048576 15 false, pT 19 15 18, mT 20 19, mG 21 1 20 false, bGC 22 .lss 21 1 20 false, pT 23 20 22, mT 24 23, mG 25 1 24 false, bGC 26 .gtr 25 65536 24 false, pT 27 24 26, mT 28 27, mG 29 2 28 false, bGC 30 .lss 29 1 28 false, pT 31 28 30, mT 32 31, mG 33 2 32 false, bGC 34 .gtr 33 4096 32 false, pT 35 32 34]
def o12_7 : List AOper := [mC 8 (.bool false)]
def o12_12 : List AOper := [mC 9 (.int .i64 0)]
def o12_17 : List AOper := [mT 36 9, mT 37 3, ln 38 37, b2 39 .lss 36 38]
def o12_24 : List AOper := [mC 10 (.int .i64 0)]
def o12_29 : List AOper := [mT 42 10, mT 43 3, mT 44 9, iA 45 1 43 44, lS 46 45, ln 47 46, b2 48 .lss 42 47]
def o12_36 : List AOper := [mT 51 3, mT 52 9, iA 53 1 51 52, lS 54 53, mT 55 10, iA 56 4 54 55, oN 57 (.load true [.int .i64, .int .i64, .int .i64, .int .i64] (.tmp 56)), oN 11 (.alloc [.int .i64 0, .int .i64 0, .int .i64 0, .int .i64 0]), sT 4 11 57]
def o12_38 : List AOper := [fA 58 0 11, lI 59 58, bC 60 .lss 59 0, mT 61 60, fG 62 0 11 61 false, lG 63 62 61 false, fG 64 0 4 61 false, lG 65 64 61 false, bH2 66 .geq 63 65 61 false, pT 67 61 66, mT 68 67, fG 69 1 11 68 false, oG 70 (.load true [.int .i64, .int .i64, .int .i64] (.tmp 69)) 68 false, oG 71 (.call true (.func 31) [.tmp 70] rB true) 68 false, oG 72 (.un .not (.tmp 71)) 68 false, pT 73 68 72]
def o12_41 : List AOper := [mC 8 (.bool false)]
def o12_44 : List AOper := [mT 49 10, bC 50 .add 49 1, mT 10 50]
def c12_44 : ACode := .ops o12_44
def b12_26 : ACode := .post (.seq (.seq (.ops o12_29) (.cond (.tmp 48) (.skip) (.exit 2))) (.seq (.block 3 (.seq (.ops o12_36) (.seq (.ops o12_38) (.cond (.tmp 73) (.seq (.ops o12_41) (.ret)) (.skip))))) (.clear zl18 c12_44))) zl18
def o12_45 : List AOper := [mT 40 9, bC 41 .add 40 1, mT 9 41]
def c12_45 : ACode := .ops o12_45
def b12_14 : ACode := .post (.seq (.seq (.ops o12_17) (.cond (.tmp 39) (.skip) (.exit 0))) (.seq (.block 1 (.seq (.ops o12_24) (.block 2 (.clear zl18 (.loop b12_26))))) (.clear zl19 c12_45))) zl19
def o12_47 : List AOper := [mC 8 (.bool true)]
def c12_46 : ACode := .seq (.ops o12_47) (.ret)
def c12_0 : ACode := .seq (.ops o12_1) (.seq (.seq (.ops o12_4) (.cond (.tmp 35) (.seq (.ops o12_7) (.ret)) (.skip))) (.seq (.seq (.ops o12_12) (.block 0 (.clear zl19 (.loop b12_14)))) (.clear zl20 c12_46)))
def a12 : AFun := ⟨74, [.tmp 8], c12_0⟩
theorem ok12 : OkFun Tryz.prog 12 a12 := okm Tryz.func12 (by kernel_rfl)
def o13_1 : List AOper := [mC 2 (.bool false)]
def o13_3 : List (AOper × Option Nat) := [(mT 3 0, none), (cl 4 false 32 [3] rB, none), (un 5 4, none), (mT 6 5, none), (mG 7 0 6 false, none), (⟨some 8, .nilCheck (.tmp 7), some (6, false)⟩, none), (fG 9 9 8 6 false, none), (fG 10 0 9 6 false, none), (⟨some 11, .load false [.ptr] (.tmp 10), some (6, false)⟩, none), (⟨some 12, .eqNil 0 false (.tmp 11), some (6, false)⟩, none), (mG 13 12 6 false, none), (mG 14 0 13 true, none), (⟨some 15, .nilCheck (.tmp 14), some (13, true)⟩, none), (fG 16 8 15 13 true, none), (⟨some 17, .load false [.slice] (.tmp 16), some (13, true)⟩, none), (⟨some 18, .len (.tmp 17), some (13, true)⟩, none), (mG 19 0 13 true, none), (⟨some 20, .nilCheck (.tmp 19), some (13, true)⟩, none), (fG 21 6 20 13 true, none), (⟨some 22, .load false [.slice] (.tmp 21), some (13, true)⟩, none), (⟨some 23, .len (.tmp 22), some (13, true)⟩, none), (bH2 24 .add 18 23 13 true, none), (mG 25 0 13 true, none), (⟨some 26, .nilCheck (.tmp 25), some (13, true)⟩, none), (fG 27 7 26 13 true, none), (⟨some 28, .load false [.ptr] (.tmp 27), some (13, true)⟩, none), (⟨some 29, .call false (.func 33) [.tmp 28] rI true, some (13, true)⟩, none), (bH2 30 .add 24 29 13 true, none), (bGC 31 .eql 30 0 13 true, none), (⟨some 32, .pick (.tmp 13) (.tmp 31) (.const (.bool false)), some (6, false)⟩, none), (mG 33 32 6 false, none), (mG 34 0 33 true, none), (⟨some 35, .nilCheck (.tmp 34), some (33, true)⟩, none), (fG 36 4 35 33 true, none), (lG 37 36 33 true, none), (mG 38 0 33 true, none), (⟨some 39, .nilCheck (.tmp 38), some (33, true)⟩, none), (fG 40 5 39 33 true, none), (lG 41 40 33 true, none), (bH2 42 .geq 37 41 33 true, none), (⟨some 43, .pick (.tmp 33) (.tmp 42) (.const (.bool false)), some (6, false)⟩, none), (mG 44 43 6 false, none), (mG 45 0 44 true, none), (⟨some 46, .nilCheck (.tmp 45), some (44, true)⟩, none), (fG 47 12 46 44 true, none), (⟨some 48, .load false [.ptr] (.tmp 47), some (44, true)⟩, none), (⟨some 49, .eqNil 0 false (.tmp 48), some (44, true)⟩, none), (⟨some 50, .pick (.tmp 44) (.tmp 49) (.const (.bool false)), some (6, false)⟩, none), (pT 51 6 50, none), (mT 2 51, none)]
def c13_0 : ACode := .seq (.ops o13_1) (.seq (.draw [] 0 o13_3 [(14, 26), (19, 26)]) (.ret))
def a13 : AFun := ⟨52, [.tmp 2], c13_0⟩
theorem ok13 : OkFun Tryz.prog 13 a13 := okm Tryz.func13 (by kernel_rfl)
def o14_1 : List AOper := [bx 4 0, oN 8 (.alloc [.int .i64 0, .int .i64 0, .int .i64 0, .slice none 0 0, .int .i64 0, .int .i64 0, .slice none 0 0, .int .i64 0, .int .i64 0, .int .i64 0, .slice none 0 0, .slice none 0 0, .bool false, .int .i64 0, .slice none 0 0, .int .i64 0, .slice none 0 0, .int .i64 0, .bool false, .int .u64 0, .int .i64 0, .int .i64 0, .int .i64 0, .int .i64 0, .bool false, .bool false, .int .u64 0, .int .i64 0, .int .i64 0, .bool false, .int .i64 0])]
def o14_3 : List AOper := [l2 14 4, mT 15 2, oN 16 (.call false (.func 34) [.tmp 14, .tmp 15] [(true, [.int .i64, .int .i64, .int .i64, .slice]), (false, [.bool])] false), mT 13 16, xt 17 13 0, xt 18 13 1, oN 9 (.alloc [.int .i64 0, .int .i64 0, .int .i64 0, .slice none 0 0]), sT 4 9 17, mT 10 18]
def o14_5 : List AOper := [mT 20 3, ln 21 20, mT 22 1, oN 23 (.call true (.func 35) [.tmp 21, .tmp 22] [(true, [.int .i64, .int .i64, .int .i64, .bool, .bool, .int .u64, .int .i64, .int .i64]), (false, [.bool])] false), mT 19 23, xt 24 19 0, xt 25 19 1, oN 11 (.alloc [.int .i64 0, .int .i64 0, .int .i64 0, .bool false, .bool false, .int .u64 0, .int .i64 0, .int .i64 0]), sT 8 11 24, mT 12 25]
def o14_7 : List AOper := [l2 26 4, mT 27 1, mT 28 3, oN 29 (.load true [.int .i64, .int .i64, .int .i64, .slice] (.tmp 9)), oN 30 (.load true [.int .i64, .int .i64, .int .i64, .bool, .bool, .int .u64, .int .i64, .int .i64] (.tmp 11)), oN 31 (.build [.int .i64 0, .int .i64 0, .int .i64 0, .slice none 0 0, .int .i64 0, .int .i64 0, .slice none 0 0, .int .i64 0, .int .i64 0, .int .i64 0, .slice none 0 0, .slice none 0 0, .bool false, .int .i64 0, .slice none 0 0, .int .i64 0, .slice none 0 0, .int .i64 0, .bool false, .int .u64 0, .int .i64 0, .int .i64 0, .int .i64 0, .int .i64 0, .bool false, .bool false, .int .u64 0, .int .i64 0, .int .i64 0, .bool false, .int .i64 0] [(0, 2, .tmp 26), (2, 1, .tmp 27), (3, 1, .tmp 28), (7, 4, .tmp 29), (21, 8, .tmp 30)]), sT 31 8 31]
def c14_0 : ACode := .seq (.ops o14_1) (.seq (.ops o14_3) (.seq (.ops o14_5) (.seq (.ops o14_7) (.ret))))
def a14 : AFun := ⟨32, [.cell true [.int .i64, .int .i64, .int .i64, .slice, .int .i64, .int .i64, .slice, .int .i64, .int .i64, .int .i64, .slice, .slice, .bool, .int .i64, .slice, .int .i64, .slice, .int .i64, .bool, .int .u64, .int .i64, .int .i64, .int .i64, .int .i64, .bool, .bool, .int .u64, .int .i64, .int .i64, .bool, .int .i64] 8], c14_0⟩
theorem ok14 : OkFun Tryz.prog 14 a14 := okm Tryz.func14 (by kernel_rfl)
def o15_1 : List AOper := [oN 4 (.alloc ev0)]
def o15_5 : List (AOper × Option Nat) := [(mT 5 0, none), (cl 6 false 32 [5] rB, none), (un 7 6, none), (mT 8 7, none), (mG 9 1 8 false, none), (⟨some 10, .call false (.func 36) [.tmp 9] rI true, some (8, false)⟩, none), (mG 11 0 8 false, none), (⟨some 12, .nilCheck (.tmp 11), some (8, false)⟩, none), (fG 13 0 12 8 false, none), (⟨some 14, .load true [.int .i64, .int .i64] (.tmp 13), some (8, false)⟩, none), (⟨some 15, .call true (.func 24) [.tmp 14] rI true, some (8, false)⟩, none), (bH2 16 .neq 10 15 8 false, none), (pT 17 8 16, none)]
def o15_8 : List AOper := [oN 18 (.build ev0 []), sT 5 4 18]
def o15_21 : List AOper := [mT 20 0, nC 21 20, fA 22 9 21, fA 23 0 22, lP 24 23, oN 25 (.eqNil 0 true (.tmp 24)), mT 19 25]
def o15_24 : List AOper := [mT 26 0, mT 27 1, cl 28 false 37 [26, 27] rE, sT 5 4 28]
def o15_27 : List AOper := [mT 30 0, nC 31 30, fA 32 8 31, lS 33 32, ln 34 33, bC 35 .gtr 34 0, mT 29 35]
def o15_30 : List AOper := [mT 36 0, oN 37 (.call false (.func 38) [.tmp 36] [] false)]
def o15_33 : List AOper := [mT 39 0, cl 40 false 39 [39] rB, un 41 40, mT 38 41]
def o15_36 : List AOper := [mT 42 0, mT 43 0, nC 44 43, fA 45 7 44, lP 46 45, cl 47 false 40 [46] rS, nC 48 42, fA 49 8 48, sT 1 49 47]
def o15_39 : List (AOper × Option Nat) := [(mT 51 0, none), (nC 52 51, none), (fA 53 4 52, none), (lI 54 53, none), (mT 55 0, none), (nC 56 55, none), (fA 57 5 56, none), (lI 58 57, none), (b2 59 .lss 54 58, none), (mT 50 59, none)]
def o15_42 : List AOper := [mT 60 0, cl 61 false 41 [60] rE, sT 5 4 61]
def o15_45 : List AOper := [mT 63 0, nC 64 63, fA 65 12 64, lP 66 65, oN 67 (.eqNil 0 true (.tmp 66)), mT 62 67]
def o15_48 : List AOper := [mT 68 0, mT 69 1, cl 70 false 42 [68, 69] rE, sT 5 4 70]
def o15_51 : List AOper := [mT 72 0, nC 73 72, fA 74 7 73, lP 75 74, cl 76 false 33 [75] rI, bC 77 .gtr 76 0, mT 71 77]
def o15_54 : List AOper := [mT 78 0, mT 79 0, nC 80 79, fA 81 7 80, lP 82 81, cl 83 false 40 [82] rS, nC 84 78, fA 85 8 84, sT 1 85 83]
def b15_16 : ACode := .post (.block 1 (.seq (.block 2 (.seq (.ops o15_21) (.cond (.tmp 19) (.seq (.ops o15_24) (.ret)) (.seq (.ops o15_27) (.cond (.tmp 29) (.seq (.ops o15_30) (.exit 1)) (.seq (.ops o15_33) (.cond (.tmp 38) (.seq (.ops o15_36) (.exit 1)) (.seq (.draw [] 0 o15_39 []) (.cond (.tmp 50) (.seq (.ops o15_42) (.ret)) (.seq (.ops o15_45) (.cond (.tmp 62) (.seq (.ops o15_48) (.ret)) (.seq (.ops o15_51) (.cond (.tmp 71) (.seq (.ops o15_54) (.exit 1)) (.skip)))))))))))))) (.exit 0))) zl21
def o15_59 : List AOper := [oN 86 (.build ev0 []), sT 5 4 86]
def c15_58 : ACode := .seq (.ops o15_59) (.ret)
def c15_14 : ACode := .seq (.block 0 (.clear zl21 (.loop b15_16))) (.clear zl22 c15_58)
def o15_70 : List AOper := [mT 20 0, nC 21 20, fA 22 9 21, fA 23 0 22, lP 24 23, oN 25 (.eqNil 0 true (.tmp 24)), mT 19 25]
def o15_73 : List AOper := [mT 26 0, mT 27 1, cl 28 false 37 [26, 27] rE, sT 5 4 28]
def o15_76 : List AOper := [mT 30 0, nC 31 30, fA 32 8 31, lS 33 32, ln 34 33, bC 35 .gtr 34 0, mT 29 35]
def o15_79 : List AOper := [mT 36 0, oN 37 (.call false (.func 38) [.tmp 36] [] false)]
def o15_82 : List AOper := [mT 39 0, cl 40 false 39 [39] rB, un 41 40, mT 38 41]
def o15_85 : List AOper := [mT 42 0, mT 43 0, nC 44 43, fA 45 7 44, lP 46 45, cl 47 false 40 [46] rS, nC 48 42, fA 49 8 48, sT 1 49 47]
def o15_88 : List (AOper × Option Nat) := [(mT 51 0, none), (nC 52 51, none), (fA 53 4 52, none), (lI 54 53, none), (mT 55 0, none), (nC 56 55, none), (fA 57 5 56, none), (lI 58 57, none), (b2 59 .lss 54 58, none), (mT 50 59, none)]
def o15_91 : List AOper := [mT 60 0, cl 61 false 41 [60] rE, sT 5 4 61]
def o15_94 : List AOper := [mT 63 0, nC 64 63, fA 65 12 64, lP 66 65, oN 67 (.eqNil 0 true (.tmp 66)), mT 62 67]
def o15_97 : List AOper := [mT 68 0, mT 69 1, cl 70 false 42 [68, 69] rE, sT 5 4 70]
def o15_100 : List AOper := [mT 72 0, nC 73 72, fA 74 7 73, lP 75 74, cl 76 false 33 [75] rI, bC 77 .gtr 76 0, mT 71 77]
def o15_103 : List AOper := [mT 78 0, mT 79 0, nC 80 79, fA 81 7 80, lP 82 81, cl 83 false 40 [82] rS, nC 84 78, fA 85 8 84, sT 1 85 83]
def b15_65 : ACode := .post (.block 1 (.seq (.block 2 (.seq (.ops o15_70) (.cond (.tmp 19) (.seq (.ops o15_73) (.ret)) (.seq (.ops o15_76) (.cond (.tmp 29) (.seq (.ops o15_79) (.exit 1)) (.seq (.ops o15_82) (.cond (.tmp 38) (.seq (.ops o15_85) (.exit 1)) (.seq (.draw [] 0 o15_88 []) (.cond (.tmp 50) (.seq (.ops o15_91) (.ret)) (.seq (.ops o15_94) (.cond (.tmp 62) (.seq (.ops o15_97) (.ret)) (.seq (.ops o15_100) (.cond (.tmp 71) (.seq (.ops o15_103) (.exit 1)) (.skip)))))))))))))) (.exit 0))) zl21
def o15_108 : List AOper := [oN 86 (.build ev0 []), sT 5 4 86]
def c15_107 : ACode := .seq (.ops o15_108) (.ret)
def c15_61 : ACode := .seq (.skip) (.seq (.block 0 (.clear zl21 (.loop b15_65))) (.clear zl22 c15_107))
def c15_0 : ACode := .seq (.ops o15_1) (.scope 0 (.seq (.seq (.draw [] 0 o15_5 [(9, 5)]) (.cond (.tmp 17) (.seq (.ops o15_8) (.ret)) (.skip))) (.seq (.block 1000000000 (.skip)) (.clear zl21 c15_14))) (.clear zl21 c15_61))
def a15 : AFun := ⟨87, [.cell true eL 4], c15_0⟩
theorem ok15 : OkFun Tryz.prog 15 a15 := okm Tryz.func15 (by kernel_rfl)
def o16_1 : List AOper := [oN 4 (.alloc ev0)]
def o16_4 : List (AOper × Option Nat) := [(mT 8 1, none), (nC 9 8, none), (fA 10 0 9, none), (lS 11 10, none), (ln 12 11, none), (mT 13 0, none), (nC 14 13, none), (fA 15 0 14, none), (l2 16 15, none), (cl 17 true 8 [16] rI, none), (b2 18 .neq 12 17, none), (mT 19 18, none), (mG 20 0 19 false, none), (⟨some 21, .call false (.func 17) [.tmp 20] rB true, some (19, false)⟩, none), (pT 22 19 21, none)]
def o16_7 : List AOper := [oN 23 (.build ev0 []), sT 5 4 23]
def o16_12 : List AOper := [mT 24 0, nC 25 24, fA 26 12 25, oN 27 (.load false [.bool] (.tmp 26)), mT 28 27, mG 29 0 28 false, oG 30 (.nilCheck (.tmp 29)) 28 false, fG 31 11 30 28 false, oG 32 (.load false [.slice] (.tmp 31)) 28 false, oG 33 (.len (.tmp 32)) 28 false, bGC 34 .gtr 33 0 28 false, pT 35 28 34]
def o16_15 : List AOper := [mT 36 0, mT 37 1, cl 38 false 43 [36, 37] rE, sT 5 4 38]
def c16_13 : ACode := .cond (.tmp 35) (.seq (.ops o16_15) (.ret)) (.skip)
def o16_23 : List AOper := [mT 39 0, nC 40 39, fA 41 6 40, lS 42 41, ln 43 42, bC 44 .gtr 43 0]
def o16_30 : List (AOper × Option Nat) := [(mT 45 0, none), (nC 46 45, none), (fA 47 7 46, none), (mT 48 0, none), (nC 49 48, none), (fA 50 6 49, none), (lS 51 50, none), (oN 52 (.indexAddr 4 (.tmp 51) (.const (.int .i64 0))), none), (oN 53 (.load true [.int .i64, .int .i64, .int .i64, .int .i64] (.tmp 52)), none), (cl 54 false 44 [47, 53] rB, none), (un 55 54, none)]
def o16_33 : List AOper := [mT 56 0, mT 57 0, nC 58 57, fA 59 7 58, cl 60 false 45 [59] rS, nC 61 56, fA 62 11 61, sT 1 62 60]
def o16_35 : List AOper := [mT 63 0, mT 64 1, cl 65 false 43 [63, 64] rE, sT 5 4 65]
def c16_34 : ACode := .seq (.ops o16_35) (.ret)
def o16_38 : List AOper := [mT 66 0, mT 67 0, nC 68 67, fA 69 6 68, lS 70 69, oN 71 (.slice 4 (.tmp 70) (some (.const (.int .i64 1))) none), nC 72 66, fA 73 6 72, sT 1 73 71]
def b16_20 : ACode := .post (.seq (.seq (.ops o16_23) (.cond (.tmp 44) (.skip) (.exit 0))) (.block 1 (.seq (.seq (.draw [] 0 o16_30 []) (.cond (.tmp 55) (.seq (.ops o16_33) (.clear zl23 c16_34)) (.skip))) (.ops o16_38)))) zl23
def o16_41 : List (AOper × Option Nat) := [(mT 74 0, none), (nC 75 74, none), (fA 76 4 75, none), (lI 77 76, none), (mT 78 0, none), (nC 79 78, none), (fA 80 5 79, none), (lI 81 80, none), (b2 82 .lss 77 81, none)]
def o16_44 : List (AOper × Option Nat) := [(mT 83 0, none), (mT 84 0, none), (nC 85 84, none), (fA 86 3 85, none), (lS 87 86, none), (mT 88 0, none), (nC 89 88, none), (fA 90 4 89, none), (lI 91 90, none), (iA 92 1 87 91, none), (lS 93 92, none), (nC 94 83, none), (fA 95 6 94, none), (sT 1 95 93, none)]
def o16_46 : List AOper := [mT 96 0, nC 97 96, fA 98 4 97, lI 99 98, bC 100 .add 99 1, nC 101 96, fA 102 4 101, sT 1 102 100]
def o16_48 : List AOper := [mT 103 0, nC 104 103, fA 105 4 104, lI 106 105, bC 107 .sub 106 1, oN 108 (.build ev0 [(0, 1, .const (.int .i64 2)), (1, 1, .tmp 107)]), sT 5 4 108]
def c16_47 : ACode := .seq (.ops o16_48) (.ret)
def o16_53 : List AOper := [mT 109 0, nC 110 109, fA 111 29 110, oN 112 (.load false [.bool] (.tmp 111)), un 113 112]
def o16_56 : List AOper := [mT 114 0, nC 115 114, fA 116 21 115, fA 117 2 116, lI 118 117, mT 5 118]
def o16_58 : List AOper := [mT 119 0, nC 120 119, fA 121 21 120, mT 122 1, cl 123 false 46 [121, 122] rB]
def o16_60 : List (AOper × Option Nat) := [(mT 124 0, none), (mT 125 0, none), (nC 126 125, none), (fA 127 30 126, none), (lI 128 127, none), (mT 129 0, none), (nC 130 129, none), (fA 131 21 130, none), (fA 132 2 131, none), (lI 133 132, none), (b2 134 .add 128 133, none), (mT 135 5, none), (b2 136 .sub 134 135, none), (nC 137 124, none), (fA 138 30 137, none), (sT 1 138 136, none)]
def o16_63 : List (AOper × Option Nat) := [(mT 139 0, none), (nC 140 139, none), (fA 141 21 140, none), (fA 142 4 141, none), (oN 143 (.load false [.bool] (.tmp 142)), none), (mT 144 143, none), (mG 145 0 144 true, none), (⟨some 146, .nilCheck (.tmp 145), some (144, true)⟩, none), (fG 147 21 146 144 true, none), (fG 148 6 147 144 true, none), (lG 149 148 144 true, none), (mG 150 0 144 true, none), (⟨some 151, .nilCheck (.tmp 150), some (144, true)⟩, none), (fG 152 21 151 144 true, none), (fG 153 7 152 144 true, none), (lG 154 153 144 true, none), (bH2 155 .lss 149 154 144 true, none), (pF 156 144 155, none)]
def o16_66 : List AOper := [mT 157 0, mT 158 0, nC 159 158, fA 160 21 159, fA 161 6 160, lI 162 161, nC 163 157, fA 164 4 163, sT 1 164 162]
def o16_68 : List AOper := [mT 165 0, mT 166 0, nC 167 166, fA 168 21 167, fA 169 7 168, lI 170 169, nC 171 165, fA 172 5 171, sT 1 172 170]
def o16_70 : List (AOper × Option Nat) := [(mT 174 0, none), (nC 175 174, none), (fA 176 3 175, none), (lS 177 176, none), (ln 178 177, none), (mT 179 0, none), (nC 180 179, none), (fA 181 2 180, none), (lI 182 181, none), (oN 183 (.call true (.func 35) [.tmp 178, .tmp 182] [(true, [.int .i64, .int .i64, .int .i64, .bool, .bool, .int .u64, .int .i64, .int .i64]), (false, [.bool])] false), none), (mT 173 183, none), (xt 184 173 0, none), (xt 185 173 1, none), (oN 6 (.alloc [.int .i64 0, .int .i64 0, .int .i64 0, .bool false, .bool false, .int .u64 0, .int .i64 0, .int .i64 0]), none), (sT 8 6 184, none), (mT 7 185, none)]
def o16_71 : List AOper := [mT 186 0, oN 187 (.load true [.int .i64, .int .i64, .int .i64, .bool, .bool, .int .u64, .int .i64, .int .i64] (.tmp 6)), nC 188 186, fA 189 21 188, sT 8 189 187]
def c16_69 : ACode := .seq (.draw [] 0 o16_70 [(3, 13), (8, 13)]) (.ops o16_71)
def o16_72 : List AOper := [mT 190 0, mT 191 0, nC 192 191, fA 193 21 192, fA 194 4 193, oN 195 (.load false [.bool] (.tmp 194)), nC 196 190, fA 197 29 196, sT 1 197 195]
def o16_74 : List AOper := [oN 198 (.build ev0 [(0, 1, .const (.int .i64 1))]), sT 5 4 198]
def c16_73 : ACode := .seq (.ops o16_74) (.ret)
def c16_61 : ACode := .seq (.seq (.draw [] 0 o16_63 []) (.cond (.tmp 156) (.seq (.ops o16_66) (.seq (.ops o16_68) (.clear zl24 c16_69))) (.ops o16_72))) (.clear zl25 c16_73)
def o16_79 : List AOper := [mT 199 0, nC 200 199, fA 201 7 200, fA 202 3 201, lS 203 202, ln 204 203, bC 205 .eql 204 0]
def o16_82 : List AOper := [oN 206 (.build ev0 []), sT 5 4 206]
def o16_86 : List AOper := [mT 207 0, mT 208 0, nC 209 208, fA 210 7 209, cl 211 false 45 [210] rS, nC 212 207, fA 213 11 212, sT 1 213 211]
def o16_88 : List AOper := [mT 214 0, mT 215 1, cl 216 false 43 [214, 215] rE, sT 5 4 216]
def c16_39 : ACode := .seq (.seq (.draw [] 0 o16_41 []) (.cond (.tmp 82) (.seq (.draw [] 0 o16_44 []) (.seq (.ops o16_46) (.clear zl24 c16_47))) (.skip))) (.seq (.seq (.ops o16_53) (.cond (.tmp 113) (.seq (.ops o16_56) (.seq (.ops o16_58) (.seq (.draw [] 0 o16_60 []) (.clear zl24 c16_61)))) (.skip))) (.seq (.seq (.ops o16_79) (.cond (.tmp 205) (.seq (.ops o16_82) (.ret)) (.skip))) (.seq (.ops o16_86) (.seq (.ops o16_88) (.ret)))))
def c16_0 : ACode := .seq (.ops o16_1) (.seq (.seq (.draw [] 0 o16_4 []) (.cond (.tmp 22) (.seq (.ops o16_7) (.ret)) (.skip))) (.seq (.seq (.ops o16_12) (.clear zl26 c16_13)) (.seq (.block 0 (.clear zl23 (.loop b16_20))) (.clear zl23 c16_39))))
def a16 : AFun := ⟨217, [.cell true eL 4], c16_0⟩
theorem ok16 : OkFun Tryz.prog 16 a16 := okm Tryz.func16 (by kernel_rfl)
def o17_1 : List AOper := [mC 2 (.bool false)]
def o17_3 : List (AOper × Option Nat) := [(mT 3 0, none), (nC 4 3, none), (fA 5 12 4, none), (oN 6 (.load false [.bool] (.tmp 5)), none), (un 7 6, none), (mT 8 7, none), (mG 9 0 8 true, none), (⟨some 10, .nilCheck (.tmp 9), some (8, true)⟩, none), (fG 11 11 10 8 true, none), (⟨some 12, .load false [.slice] (.tmp 11), some (8, true)⟩, none), (⟨some 13, .len (.tmp 12), some (8, true)⟩, none), (bGC 14 .eql 13 0 8 true, none), (pF 15 8 14, none), (mT 16 15, none), (mG 17 0 16 true, none), (⟨some 18, .nilCheck (.tmp 17), some (16, true)⟩, none), (fG 19 6 18 16 true, none), (⟨some 20, .load false [.slice] (.tmp 19), some (16, true)⟩, none), (⟨some 21, .len (.tmp 20), some (16, true)⟩, none), (bGC 22 .eql 21 0 16 true, none), (pF 23 16 22, none), (mT 24 23, none), (mG 25 0 24 true, none), (⟨some 26, .nilCheck (.tmp 25), some (24, true)⟩, none), (fG 27 4 26 24 true, none), (lG 28 27 24 true, none), (mG 29 0 24 true, none), (⟨some 30, .nilCheck (.tmp 29), some (24, true)⟩, none), (fG 31 5 30 24 true, none), (lG 32 31 24 true, none), (bH2 33 .geq 28 32 24 true, none), (pF 34 24 33, none), (mT 35 34, none), (mG 36 0 35 true, none), (⟨some 37, .nilCheck (.tmp 36), some (35, true)⟩, none), (fG 38 29 37 35 true, none), (⟨some 39, .load false [.bool] (.tmp 38), some (35, true)⟩, none), (pF 40 35 39, none), (mT 41 40, none), (mG 42 0 41 true, none), (⟨some 43, .nilCheck (.tmp 42), some (41, true)⟩, none), (fG 44 7 43 41 true, none), (fG 45 3 44 41 true, none), (⟨some 46, .load false [.slice] (.tmp 45), some (41, true)⟩, none), (⟨some 47, .len (.tmp 46), some (41, true)⟩, none), (bGC 48 .eql 47 0 41 true, none), (pF 49 41 48, none), (mT 2 49, none)]
def c17_0 : ACode := .seq (.ops o17_1) (.seq (.draw [] 0 o17_3 []) (.ret))
def a17 : AFun := ⟨50, [.tmp 2], c17_0⟩
theorem ok17 : OkFun Tryz.prog 17 a17 := okm Tryz.func17 (by kernel_rfl)
def o18_1 : List AOper := [mC 2 (.int .i64 0)]
def o18_4 : List AOper := [mT 3 0, oN 4 (.eqNil 0 false (.tmp 3))]
def o18_7 : List AOper := [mC 2 (.int .i64 0)]
def o18_11 : List AOper := [mT 5 0, nC 6 5, fA 7 13 6, lI 8 7, mT 2 8]
def c18_0 : ACode := .seq (.ops o18_1) (.seq (.seq (.ops o18_4) (.cond (.tmp 4) (.seq (.ops o18_7) (.ret)) (.skip))) (.seq (.ops o18_11) (.ret)))
def a18 : AFun := ⟨9, [.tmp 2], c18_0⟩
theorem ok18 : OkFun Tryz.prog 18 a18 := okm Tryz.func18 (by kernel_rfl)
def o19_1 : List AOper := [mC 4 (.bool false)]
def o19_4 : List AOper := [mT 6 0, ln 7 6, mT 8 1, ln 9 8, b2 10 .neq 7 9]
def o19_7 : List AOper := [mC 4 (.bool false)]
def o19_12 : List AOper := [mC 5 (.int .i64 0)]
def o19_17 : List AOper := [mT 11 5, mT 12 0, ln 13 12, b2 14 .lss 11 13]
def o19_24 : List (AOper × Option Nat) := [(mT 17 0, none), (mT 18 5, none), (iA 19 4 17 18, none), (fA 20 0 19, none), (lI 21 20, none), (mT 22 1, none), (mT 23 5, none), (iA 24 4 22 23, none), (fA 25 0 24, none), (lI 26 25, none), (b2 27 .neq 21 26, none), (mT 28 27, none), (mG 29 0 28 false, none), (mG 30 5 28 false, none), (⟨some 31, .indexAddr 4 (.tmp 29) (.tmp 30), some (28, false)⟩, none), (fG 32 1 31 28 false, none), (⟨some 33, .load true [.int .u64, .int .u64, .int .u64] (.tmp 32), some (28, false)⟩, none), (mG 34 1 28 false, none), (mG 35 5 28 false, none), (⟨some 36, .indexAddr 4 (.tmp 34) (.tmp 35), some (28, false)⟩, none), (fG 37 1 36 28 false, none), (⟨some 38, .load true [.int .u64, .int .u64, .int .u64] (.tmp 37), some (28, false)⟩, none), (⟨some 39, .eqAgg [.int .u64, .int .u64, .int .u64] true (.tmp 33) (.tmp 38), some (28, false)⟩, none), (pT 40 28 39, none)]
def o19_27 : List AOper := [mC 4 (.bool false)]
def o19_30 : List AOper := [mT 15 5, bC 16 .add 15 1, mT 5 16]
def c19_30 : ACode := .ops o19_30
def b19_14 : ACode := .post (.seq (.seq (.ops o19_17) (.cond (.tmp 14) (.skip) (.exit 0))) (.seq (.block 1 (.seq (.draw [] 0 o19_24 []) (.cond (.tmp 40) (.seq (.ops o19_27) (.ret)) (.skip)))) (.clear zl27 c19_30))) zl27
def o19_32 : List AOper := [mC 4 (.bool true)]
def c19_31 : ACode := .seq (.ops o19_32) (.ret)
def c19_0 : ACode := .seq (.ops o19_1) (.seq (.seq (.ops o19_4) (.cond (.tmp 10) (.seq (.ops o19_7) (.ret)) (.skip))) (.seq (.seq (.ops o19_12) (.block 0 (.clear zl27 (.loop b19_14)))) (.clear zl28 c19_31)))
def a19 : AFun := ⟨41, [.tmp 4], c19_0⟩
theorem ok19 : OkFun Tryz.prog 19 a19 := okm Tryz.func19 (by kernel_rfl)
def o20_1 : List AOper := [mC 2 (.slice none 0 0)]
def o20_4 : List AOper := [mT 3 0, oN 4 (.eqNil 0 false (.tmp 3))]
def o20_7 : List AOper := [mC 2 (.slice none 0 0)]
def o20_11 : List AOper := [mT 5 0, nC 6 5, fA 7 9 6, fA 8 2 7, lS 9 8, cl 10 false 47 [9] rS, mT 2 10]
def c20_0 : ACode := .seq (.ops o20_1) (.seq (.seq (.ops o20_4) (.cond (.tmp 4) (.seq (.ops o20_7) (.ret)) (.skip))) (.seq (.ops o20_11) (.ret)))
def a20 : AFun := ⟨11, [.tmp 2], c20_0⟩
theorem ok20 : OkFun Tryz.prog 20 a20 := okm Tryz.func20 (by kernel_rfl)
def o21_1 : List AOper := [mC 4 (.bool false)]
def o21_4 : List AOper := [mT 6 0, ln 7 6, mT 8 1, ln 9 8, b2 10 .neq 7 9]
def o21_7 : List AOper := [mC 4 (.bool false)]
def o21_12 : List AOper := [mC 5 (.int .i64 0)]
def o21_17 : List AOper := [mT 11 5, mT 12 0, ln 13 12, b2 14 .lss 11 13]
def o21_24 : List (AOper × Option Nat) := [(mT 17 0, none), (mT 18 5, none), (iA 19 1 17 18, none), (oN 20 (.load false [.int .u64] (.tmp 19)), none), (mT 21 1, none), (mT 22 5, none), (iA 23 1 21 22, none), (oN 24 (.load false [.int .u64] (.tmp 23)), none), (b2 25 .neq 20 24, none)]
def o21_27 : List AOper := [mC 4 (.bool false)]
def o21_30 : List AOper := [mT 15 5, bC 16 .add 15 1, mT 5 16]
def c21_30 : ACode := .ops o21_30
def b21_14 : ACode := .post (.seq (.seq (.ops o21_17) (.cond (.tmp 14) (.skip) (.exit 0))) (.seq (.block 1 (.seq (.draw [] 0 o21_24 []) (.cond (.tmp 25) (.seq (.ops o21_27) (.ret)) (.skip)))) (.clear zl29 c21_30))) zl29
def o21_32 : List AOper := [mC 4 (.bool true)]
def c21_31 : ACode := .seq (.ops o21_32) (.ret)
def c21_0 : ACode := .seq (.ops o21_1) (.seq (.seq (.ops o21_4) (.cond (.tmp 10) (.seq (.ops o21_7) (.ret)) (.skip))) (.seq (.seq (.ops o21_12) (.block 0 (.clear zl29 (.loop b21_14)))) (.clear zl30 c21_31)))
def a21 : AFun := ⟨26, [.tmp 4], c21_0⟩
theorem ok21 : OkFun Tryz.prog 21 a21 := okm Tryz.func21 (by kernel_rfl)
def o22_1 : List AOper := [mC 6 (.slice none 0 0)]
def o22_3 : List AOper := [mT 9 0, cl 10 false 36 [9] rI, mT 7 10]
def o22_6 : List AOper := [mT 11 1, bC 12 .lss 11 0, mT 13 12, mG 14 2 13 false, bGC 15 .lss 14 0 13 false, pT 16 13 15, mT 17 16, mG 18 1 17 false, mG 19 7 17 false, bH2 20 .geq 18 19 17 false, pT 21 17 20]
def o22_9 : List AOper := [mC 6 (.slice none 0 0)]
def o22_13 : List AOper := [mT 22 2, mT 23 7, mT 24 1, b2 25 .sub 23 24, oN 26 (.minmax false [.tmp 22, .tmp 25]), oN 27 (.makeSlice 1 8 [.int .u64 0] (.tmp 26) (.tmp 26)), mT 8 27]
def o22_15 : List AOper := [mT 28 8, mT 29 0, nC 30 29, fA 31 1 30, lS 32 31, mT 33 1, oN 34 (.slice 1 (.tmp 32) (some (.tmp 33)) none), oN 35 (.copy 1 (.tmp 28) (.tmp 34))]
def o22_17 : List AOper := [mT 36 8, mT 6 36]
def c22_0 : ACode := .seq (.ops o22_1) (.seq (.ops o22_3) (.seq (.seq (.ops o22_6) (.cond (.tmp 21) (.seq (.ops o22_9) (.ret)) (.skip))) (.seq (.ops o22_13) (.seq (.ops o22_15) (.seq (.ops o22_17) (.ret))))))
def a22 : AFun := ⟨37, [.tmp 6], c22_0⟩
theorem ok22 : OkFun Tryz.prog 22 a22 := okm Tryz.func22 (by kernel_rfl)
def o23_1 : List AOper := [mC 2 (.int .i64 0)]
def o23_4 : List AOper := [mT 3 0, oN 4 (.eqNil 0 false (.tmp 3))]
def o23_7 : List AOper := [mC 2 (.int .i64 0)]
def o23_11 : List AOper := [mT 5 0, nC 6 5, fA 7 2 6, lI 8 7, mT 2 8]
def c23_0 : ACode := .seq (.ops o23_1) (.seq (.seq (.ops o23_4) (.cond (.tmp 4) (.seq (.ops o23_7) (.ret)) (.skip))) (.seq (.ops o23_11) (.ret)))
def a23 : AFun := ⟨9, [.tmp 2], c23_0⟩
theorem ok23 : OkFun Tryz.prog 23 a23 := okm Tryz.func23 (by kernel_rfl)
def o24_1 : List AOper := [bx 1 0, mC 2 (.int .i64 0)]
def o24_4 : List AOper := [l2 3 1, cl 4 true 48 [3] rB, un 5 4]
def o24_7 : List AOper := [mC 2 (.int .i64 0)]
def o24_11 : List (AOper × Option Nat) := [(l2 6 1, none), (oN 7 (.call true (.func 49) [.tmp 6, .const (.int .i64 4)] rI true), none), (fA 8 0 1, none), (lI 9 8, none), (oN 10 (.bin .mul (.const (.int .i64 3)) (.tmp 9)), none), (b2 11 .add 7 10, none), (mT 2 11, none)]
def c24_0 : ACode := .seq (.ops o24_1) (.seq (.seq (.ops o24_4) (.cond (.tmp 5) (.seq (.ops o24_7) (.ret)) (.skip))) (.seq (.draw [] 0 o24_11 []) (.ret)))
def a24 : AFun := ⟨12, [.tmp 2], c24_0⟩
theorem ok24 : OkFun Tryz.prog 24 a24 := okm Tryz.func24 (by kernel_rfl)
def o25_1 : List AOper := [mC 4 (.int .u64 0), mC 5 (.bool false)]
def o25_3 : List AOper := [mT 7 0, mT 8 1, cl 9 false 50 [7, 8] rP, mT 6 9]
def o25_6 : List AOper := [mT 10 6, oN 11 (.eqNil 0 false (.tmp 10))]
def o25_9 : List AOper := [mC 4 (.int .u64 0), mC 5 (.bool false)]
def o25_13 : List AOper := [mT 12 6, nC 13 12, oN 14 (.load false [.int .u64] (.tmp 13)), mT 4 14, mC 5 (.bool true)]
def c25_0 : ACode := .seq (.ops o25_1) (.seq (.ops o25_3) (.seq (.seq (.ops o25_6) (.cond (.tmp 11) (.seq (.ops o25_9) (.ret)) (.skip))) (.seq (.ops o25_13) (.ret))))
def a25 : AFun := ⟨15, [.tmp 4, .tmp 5], c25_0⟩
theorem ok25 : OkFun Tryz.prog 25 a25 := okm Tryz.func25 (by kernel_rfl)
def o26_1 : List AOper := [bx 3 0, mC 6 (.int .i64 0)]
def o26_4 : List AOper := [mT 7 2, bC 8 .lss 7 0, mT 9 8, mG 10 2 9 false, bGC 11 .geq 10 3 9 false, pT 12 9 11, mT 13 12, mG 14 1 13 false, bGC 15 .lss 14 0 13 false, pT 16 13 15, mT 17 16, mG 18 1 17 false, fG 19 0 3 17 false, lG 20 19 17 false, bH2 21 .geq 18 20 17 false, pT 22 17 21]
def o26_7 : List AOper := [mC 6 (.int .i64 (-1))]
def o26_11 : List AOper := [l2 23 3, mT 24 1, oN 25 (.bin .mul (.const (.int .i64 3)) (.tmp 24)), mT 26 2, b2 27 .add 25 26, fA 28 0 3, lI 29 28, oN 30 (.bin .mul (.const (.int .i64 3)) (.tmp 29)), oN 31 (.call true (.func 51) [.tmp 23, .const (.int .i64 4), .tmp 27, .tmp 30] rI true), mT 6 31]
def c26_0 : ACode := .seq (.ops o26_1) (.seq (.seq (.ops o26_4) (.cond (.tmp 22) (.seq (.ops o26_7) (.ret)) (.skip))) (.seq (.ops o26_11) (.ret)))
def a26 : AFun := ⟨32, [.tmp 6], c26_0⟩
theorem ok26 : OkFun Tryz.prog 26 a26 := okm Tryz.func26 (by kernel_rfl)
def o27_1 : List AOper := [bx 2 0, mC 4 (.pointer none)]
def o27_4 : List AOper := [l2 5 2, cl 6 true 48 [5] rB, un 7 6, mT 8 7, mG 9 1 8 false, bGC 10 .lss 9 1 8 false, pT 11 8 10, mT 12 11, mG 13 1 12 false, bGC 14 .gtr 13 4096 12 false, pT 15 12 14]
def o27_7 : List AOper := [mC 4 (.pointer none)]
def o27_11 : List AOper := [l2 16 2, mT 17 1, oN 18 (.map .make .i64 .i64 (.const (.bool false)) (.const (.bool false)) (.const (.bool false))), oN 19 (.build [.int .i64 0, .int .i64 0, .int .i64 0, (Value.map none), .slice none 0 0] [(0, 2, .tmp 16), (2, 1, .tmp 17), (3, 1, .tmp 18)]), bx 20 19, mT 4 20]
def c27_0 : ACode := .seq (.ops o27_1) (.seq (.seq (.ops o27_4) (.cond (.tmp 15) (.seq (.ops o27_7) (.ret)) (.skip))) (.seq (.ops o27_11) (.ret)))
def a27 : AFun := ⟨21, [.tmp 4], c27_0⟩
theorem ok27 : OkFun Tryz.prog 27 a27 := okm Tryz.func27 (by kernel_rfl)
def o28_1 : List AOper := [mC 4 (.pointer none)]
def o28_4 : List AOper := [mT 5 0, bC 6 .lss 5 0, mT 7 6, mG 8 0 7 false, bGC 9 .gtr 8 1048576 7 false, pT 10 7 9, mT 11 10, mG 12 1 11 false, bGC 13 .lss 12 1 11 false, pT 14 11 13, mT 15 14, mG 16 1 15 false, bGC 17 .gtr 16 65536 15 false, pT 18 15 17]
def o28_7 : List AOper := [mC 4 (.pointer none)]
def o28_11 : List AOper := [mT 19 0, mT 20 1, oN 21 (.build [.int .i64 0, .int .i64 0, .nilFunc, .bool false, .int .u64 0, .int .i64 0, .int .i64 0, .int .i64 0] [(0, 1, .tmp 19), (1, 1, .tmp 20), (3, 1, .const (.bool true)), (2, 1, .func 52)]), bx 22 21, mT 4 22]
def c28_0 : ACode := .seq (.ops o28_1) (.seq (.seq (.ops o28_4) (.cond (.tmp 18) (.seq (.ops o28_7) (.ret)) (.skip))) (.seq (.ops o28_11) (.ret)))
def a28 : AFun := ⟨23, [.tmp 4], c28_0⟩
theorem ok28 : OkFun Tryz.prog 28 a28 := okm Tryz.func28 (by kernel_rfl)
def o29_1 : List AOper := [bx 2 0, mC 4 (.int .i64 0)]
def o29_4 : List AOper := [l2 5 2, cl 6 true 48 [5] rB, un 7 6, mT 8 7, mG 9 1 8 false, bGC 10 .lss 9 0 8 false, pT 11 8 10, mT 12 11, mG 13 1 12 false, fG 14 0 2 12 false, lG 15 14 12 false, bH2 16 .geq 13 15 12 false, pT 17 12 16]
def o29_7 : List AOper := [mC 4 (.int .i64 (-1))]
def o29_11 : List AOper := [mT 18 1, fA 19 1 2, lI 20 19, b2 21 .rem 18 20, mT 4 21]
def c29_0 : ACode := .seq (.ops o29_1) (.seq (.seq (.ops o29_4) (.cond (.tmp 17) (.seq (.ops o29_7) (.ret)) (.skip))) (.seq (.ops o29_11) (.ret)))
def a29 : AFun := ⟨22, [.tmp 4], c29_0⟩
theorem ok29 : OkFun Tryz.prog 29 a29 := okm Tryz.func29 (by kernel_rfl)
def o30_1 : List AOper := [bx 1 0, mC 2 (.bool false)]
def o30_3 : List AOper := [oN 3 (.load true [.int .i64, .int .i64, .int .i64] (.tmp 1)), cl 4 true 53 [3] [(true, [.int .i64, .int .i64, .int .i64])], oN 5 (.call true (.func 54) [.tmp 4, .const (.int .i64 1099511627776)] rB true), mT 2 5]
def c30_0 : ACode := .seq (.ops o30_1) (.seq (.ops o30_3) (.ret))
def a30 : AFun := ⟨6, [.tmp 2], c30_0⟩
theorem ok30 : OkFun Tryz.prog 30 a30 := okm Tryz.func30 (by kernel_rfl)
def o31_1 : List AOper := [bx 1 0, mC 2 (.bool false)]
def o31_3 : List AOper := [oN 3 (.load true [.int .i64, .int .i64, .int .i64] (.tmp 1)), oN 4 (.call true (.func 55) [.tmp 3, .const (.int .i64 1099511627776)] rB true), mT 2 4]
def c31_0 : ACode := .seq (.ops o31_1) (.seq (.ops o31_3) (.ret))
def a31 : AFun := ⟨5, [.tmp 2], c31_0⟩
theorem ok31 : OkFun Tryz.prog 31 a31 := okm Tryz.func31 (by kernel_rfl)
def o32_1 : List AOper := [mC 2 (.bool false)]
def o32_3 : List AOper := [mT 3 0, oN 4 (.eqNil 0 true (.tmp 3)), mT 5 4, mG 6 0 5 true, oG 7 (.nilCheck (.tmp 6)) 5 true, fG 8 7 7 5 true, oG 9 (.load false [.ptr] (.tmp 8)) 5 true, oG 10 (.eqNil 0 true (.tmp 9)) 5 true, pF 11 5 10, mT 2 11]
def c32_0 : ACode := .seq (.ops o32_1) (.seq (.ops o32_3) (.ret))
def a32 : AFun := ⟨12, [.tmp 2], c32_0⟩
theorem ok32 : OkFun Tryz.prog 32 a32 := okm Tryz.func32 (by kernel_rfl)
def o33_1 : List AOper := [mC 2 (.int .i64 0)]
def o33_4 : List AOper := [mT 3 0, cl 4 false 56 [3] rB, un 5 4]
def o33_7 : List AOper := [mC 2 (.int .i64 0)]
def o33_11 : List AOper := [mT 6 0, nC 7 6, fA 8 4 7, lS 9 8, ln 10 9, mT 2 10]
def c33_0 : ACode := .seq (.ops o33_1) (.seq (.seq (.ops o33_4) (.cond (.tmp 5) (.seq (.ops o33_7) (.ret)) (.skip))) (.seq (.ops o33_11) (.ret)))
def a33 : AFun := ⟨11, [.tmp 2], c33_0⟩
theorem ok33 : OkFun Tryz.prog 33 a33 := okm Tryz.func33 (by kernel_rfl)
def o34_1 : List AOper := [bx 2 0, oN 4 (.alloc [.int .i64 0, .int .i64 0, .int .i64 0, .slice none 0 0]), mC 5 (.bool false)]
def o34_4 : List AOper := [l2 6 2, cl 7 true 4 [6] rB, un 8 7, mT 9 8, mG 10 1 9 false, bGC 11 .lss 10 1 9 false, pT 12 9 11, mT 13 12, mG 14 1 13 false, bGC 15 .gtr 14 4096 13 false, pT 16 13 15]
def o34_7 : List AOper := [oN 17 (.build [.int .i64 0, .int .i64 0, .int .i64 0, .slice none 0 0] []), sT 4 4 17, mC 5 (.bool false)]
def o34_11 : List AOper := [l2 18 2, mT 19 1, oN 20 (.build [.int .i64 0, .int .i64 0, .int .i64 0, .slice none 0 0] [(0, 2, .tmp 18), (2, 1, .tmp 19)]), sT 4 4 20, mC 5 (.bool true)]
def c34_0 : ACode := .seq (.ops o34_1) (.seq (.seq (.ops o34_4) (.cond (.tmp 16) (.seq (.ops o34_7) (.ret)) (.skip))) (.seq (.ops o34_11) (.ret)))
def a34 : AFun := ⟨21, [.cell true [.int .i64, .int .i64, .int .i64, .slice] 4, .tmp 5], c34_0⟩
theorem ok34 : OkFun Tryz.prog 34 a34 := okm Tryz.func34 (by kernel_rfl)
def o35_1 : List AOper := [oN 4 (.alloc [.int .i64 0, .int .i64 0, .int .i64 0, .bool false, .bool false, .int .u64 0, .int .i64 0, .int .i64 0]), mC 5 (.bool false)]
def o35_4 : List AOper := [mT 6 0, bC 7 .lss 6 0, mT 8 7, mG 9 0 8 false, bGC 10 .gtr 9 1048576 8 false, pT 11 8 10, mT 12 11, mG 13 1 12 false, bGC 14 .lss 13 1 12 false, pT 15 12 14, mT 16 15, mG 17 1 16 false, bGC 18 .gtr 17 65536 16 false, pT 19 16 18]
def o35_7 : List AOper := [oN 20 (.build [.int .i64 0, .int .i64 0, .int .i64 0, .bool false, .bool false, .int .u64 0, .int .i64 0, .int .i64 0] []), sT 8 4 20, mC 5 (.bool false)]
def o35_11 : List AOper := [mT 21 0, mT 22 1, oN 23 (.build [.int .i64 0, .int .i64 0, .int .i64 0, .bool false, .bool false, .int .u64 0, .int .i64 0, .int .i64 0] [(0, 1, .tmp 21), (1, 1, .tmp 22)]), sT 8 4 23, mC 5 (.bool true)]
def c35_0 : ACode := .seq (.ops o35_1) (.seq (.seq (.ops o35_4) (.cond (.tmp 19) (.seq (.ops o35_7) (.ret)) (.skip))) (.seq (.ops o35_11) (.ret)))
def a35 : AFun := ⟨24, [.cell true [.int .i64, .int .i64, .int .i64, .bool, .bool, .int .u64, .int .i64, .int .i64] 4, .tmp 5], c35_0⟩
theorem ok35 : OkFun Tryz.prog 35 a35 := okm Tryz.func35 (by kernel_rfl)
def o36_1 : List AOper := [mC 2 (.int .i64 0)]
def o36_4 : List AOper := [mT 3 0, oN 4 (.eqNil 0 false (.tmp 3))]
def o36_7 : List AOper := [mC 2 (.int .i64 0)]
def o36_11 : List AOper := [mT 5 0, nC 6 5, fA 7 1 6, lS 8 7, ln 9 8, mT 2 9]
def c36_0 : ACode := .seq (.ops o36_1) (.seq (.seq (.ops o36_4) (.cond (.tmp 4) (.seq (.ops o36_7) (.ret)) (.skip))) (.seq (.ops o36_11) (.ret)))
def a36 : AFun := ⟨10, [.tmp 2], c36_0⟩
theorem ok36 : OkFun Tryz.prog 36 a36 := okm Tryz.func36 (by kernel_rfl)
def o37_1 : List AOper := [oN 4 (.alloc ev0)]
def o37_3 : List AOper := [mT 9 0, nC 10 9, fA 11 9 10, oN 12 (.load true [.ptr, .int .i64, .slice] (.tmp 11)), oN 5 (.alloc [.pointer none, .int .i64 0, .slice none 0 0]), sT 3 5 12]
def o37_5 : List (AOper × Option Nat) := [(fA 13 0 5, none), (lP 14 13, none), (cl 15 false 57 [14] rB, none), (fA 16 0 5, none), (lP 17 16, none), (cl 18 false 58 [17] rI, none), (mT 6 15, none), (mT 7 18, none)]
def o37_7 : List AOper := [fA 19 0 5, lP 20 19, mT 21 1, cl 22 false 59 [20, 21] rB]
def o37_9 : List (AOper × Option Nat) := [(mT 23 0, none), (nC 24 23, none), (fA 25 13 24, none), (lI 26 25, none), (fA 27 0 5, none), (lP 28 27, none), (cl 29 false 58 [28] rI, none), (mT 30 7, none), (b2 31 .sub 29 30, none), (b2 32 .add 26 31, none), (nC 33 23, none), (fA 34 13 33, none), (sT 1 34 32, none)]
def o37_11 : List (AOper × Option Nat) := [(fA 35 1 5, none), (lI 36 35, none), (mT 37 6, none), (un 38 37, none), (mT 39 38, none), (fG 40 0 5 39 true, none), (⟨some 41, .load false [.ptr] (.tmp 40), some (39, true)⟩, none), (⟨some 42, .call false (.func 57) [.tmp 41] rB true, some (39, true)⟩, none), (pF 43 39 42, none), (fA 44 0 5, none), (lP 45 44, none), (cl 46 false 60 [45] rB, none), (oN 47 (.build ev0 [(0, 1, .const (.int .i64 3)), (2, 1, .tmp 36), (3, 1, .tmp 43), (4, 1, .tmp 46)]), none), (nC 8 8, none), (sT 5 8 47, none)]
def f37_11 : List AOper := [oN 8 (.alloc ev0)]
def o37_14 : List AOper := [fA 48 4 8, oN 49 (.load false [.bool] (.tmp 48))]
def o37_16 : List AOper := [mT 50 0, oN 51 (.build [.pointer none, .int .i64 0, .slice none 0 0] []), nC 52 50, fA 53 9 52, sT 3 53 51]
def o37_19 : List AOper := [oN 54 (.load true eL (.tmp 8)), sT 5 4 54]
def c37_18 : ACode := .seq (.ops o37_19) (.ret)
def c37_0 : ACode := .seq (.ops o37_1) (.seq (.ops o37_3) (.seq (.draw [] 0 o37_5 [(4, 2)]) (.seq (.ops o37_7) (.seq (.draw [] 0 o37_9 [(3, 6)]) (.seq (.draw f37_11 0 o37_11 [(1, 7), (1, 11), (10, 7), (13, 7), (13, 11)]) (.seq (.seq (.ops o37_14) (.cond (.tmp 49) (.ops o37_16) (.skip))) (.clear zl31 c37_18)))))))
def a37 : AFun := ⟨55, [.cell true eL 4], c37_0⟩
theorem ok37 : OkFun Tryz.prog 37 a37 := okm Tryz.func37 (by kernel_rfl)
def o38_1 : List AOper := [mT 4 0, nC 5 4, fA 6 8 5, lS 7 6, oN 8 (.indexAddr 1 (.tmp 7) (.const (.int .i64 0))), lI 9 8, mT 2 9]
def o38_3 : List AOper := [mT 10 0, mT 11 0, nC 12 11, fA 13 8 12, lS 14 13, oN 15 (.slice 1 (.tmp 14) (some (.const (.int .i64 1))) none), nC 16 10, fA 17 8 16, sT 1 17 15]
def o38_5 : List AOper := [mT 18 0, nC 19 18, fA 20 7 19, lP 21 20, mT 22 2, cl 23 false 61 [21, 22] rS, mT 3 23]
def o38_6 : List AOper := [mT 24 0, mT 25 0, nC 26 25, fA 27 0 26, l2 28 27, mT 29 2, mT 30 3, cl 31 false 62 [28, 29, 30] rP, mT 32 2, mT 33 3, oN 34 (.build [.pointer none, .int .i64 0, .slice none 0 0] [(0, 1, .tmp 31), (1, 1, .tmp 32), (2, 1, .tmp 33)]), nC 35 24, fA 36 9 35, sT 3 36 34]
def c38_0 : ACode := .seq (.ops o38_1) (.seq (.ops o38_3) (.seq (.ops o38_5) (.ops o38_6)))
def a38 : AFun := ⟨37, [], c38_0⟩
theorem ok38 : OkFun Tryz.prog 38 a38 := okm Tryz.func38 (by kernel_rfl)
def o39_1 : List AOper := [mC 2 (.bool false)]
def o39_7 : List AOper := [mT 3 0, nC 4 3, fA 5 6 4, lS 6 5, ln 7 6, bC 8 .gtr 7 0]
def o39_14 : List (AOper × Option Nat) := [(mT 9 0, none), (nC 10 9, none), (fA 11 7 10, none), (lP 12 11, none), (mT 13 0, none), (nC 14 13, none), (fA 15 6 14, none), (lS 16 15, none), (oN 17 (.indexAddr 4 (.tmp 16) (.const (.int .i64 0))), none), (oN 18 (.load true [.int .i64, .int .i64, .int .i64, .int .i64] (.tmp 17)), none), (cl 19 false 63 [12, 18] rB, none), (un 20 19, none)]
def o39_17 : List AOper := [mC 2 (.bool false)]
def o39_20 : List AOper := [mT 21 0, mT 22 0, nC 23 22, fA 24 6 23, lS 25 24, oN 26 (.slice 4 (.tmp 25) (some (.const (.int .i64 1))) none), nC 27 21, fA 28 6 27, sT 1 28 26]
def b39_4 : ACode := .post (.seq (.seq (.ops o39_7) (.cond (.tmp 8) (.skip) (.exit 0))) (.block 1 (.seq (.seq (.draw [] 0 o39_14 []) (.cond (.tmp 20) (.seq (.ops o39_17) (.ret)) (.skip))) (.ops o39_20)))) zl32
def o39_22 : List AOper := [mC 2 (.bool true)]
def c39_21 : ACode := .seq (.ops o39_22) (.ret)
def c39_0 : ACode := .seq (.ops o39_1) (.seq (.block 0 (.clear zl32 (.loop b39_4))) (.clear zl33 c39_21))
def a39 : AFun := ⟨29, [.tmp 2], c39_0⟩
theorem ok39 : OkFun Tryz.prog 39 a39 := okm Tryz.func39 (by kernel_rfl)
def o40_1 : List AOper := [mC 2 (.slice none 0 0)]
def o40_4 : List AOper := [mT 6 0, cl 7 false 56 [6] rB, un 8 7]
def o40_7 : List AOper := [mC 2 (.slice none 0 0)]
def o40_11 : List AOper := [mC 3 (.slice none 0 0)]
def o40_14 : List AOper := [mT 9 0, nC 10 9, fA 11 4 10, lS 12 11, ln 13 12, mC 14 (.int .i64 0)]
def o40_18 : List AOper := [b2 15 .lss 14 13]
def o40_26 : List AOper := [iA 16 4 12 14, oN 17 (.load true [.int .i64, .int .u64, .int .u64, .int .u64] (.tmp 16)), oN 5 (.alloc [.int .i64 0, .int .u64 0, .int .u64 0, .int .u64 0]), sT 4 5 17]
def o40_27 : List (AOper × Option Nat) := [(mT 18 3, none), (mT 19 0, none), (nC 20 19, none), (fA 21 0 20, none), (l2 22 21, none), (fA 23 0 5, none), (lI 24 23, none), (cl 25 true 29 [22, 24] rI, none), (oN 26 (.buildSlice 1 1 [.int .i64 0] [(0, 1, .tmp 25)]), none), (oN 27 (.append 1 8 (.tmp 18) (.tmp 26)), none), (mT 3 27, none)]
def o40_28 : List AOper := [bC 28 .add 14 1, mT 14 28]
def c40_28 : ACode := .ops o40_28
def b40_16 : ACode := .post (.seq (.ops o40_18) (.seq (.cond (.tmp 15) (.skip) (.exit 0)) (.seq (.block 1 (.seq (.ops o40_26) (.draw [] 0 o40_27 []))) (.clear zl34 c40_28)))) zl34
def o40_30 : List AOper := [mT 29 3, oN 30 (.call false (.func 64) [.tmp 29] [] false)]
def o40_32 : List AOper := [mT 31 3, cl 32 false 65 [31] rS, mT 2 32]
def c40_29 : ACode := .seq (.ops o40_30) (.seq (.ops o40_32) (.ret))
def c40_0 : ACode := .seq (.ops o40_1) (.seq (.seq (.ops o40_4) (.cond (.tmp 8) (.seq (.ops o40_7) (.ret)) (.skip))) (.seq (.ops o40_11) (.seq (.seq (.ops o40_14) (.block 0 (.clear zl34 (.loop b40_16)))) (.clear zl35 c40_29))))
def a40 : AFun := ⟨33, [.tmp 2], c40_0⟩
theorem ok40 : OkFun Tryz.prog 40 a40 := okm Tryz.func40 (by kernel_rfl)
def o41_1 : List AOper := [oN 2 (.alloc ev0)]
def o41_3 : List (AOper × Option Nat) := [(mT 3 0, none), (mT 4 0, none), (nC 5 4, none), (fA 6 3 5, none), (lS 7 6, none), (mT 8 0, none), (nC 9 8, none), (fA 10 4 9, none), (lI 11 10, none), (iA 12 1 7 11, none), (lS 13 12, none), (nC 14 3, none), (fA 15 6 14, none), (sT 1 15 13, none)]
def o41_5 : List AOper := [mT 16 0, nC 17 16, fA 18 4 17, lI 19 18, bC 20 .add 19 1, nC 21 16, fA 22 4 21, sT 1 22 20]
def o41_7 : List AOper := [mT 23 0, nC 24 23, fA 25 4 24, lI 26 25, bC 27 .sub 26 1, oN 28 (.build ev0 [(0, 1, .const (.int .i64 2)), (1, 1, .tmp 27)]), sT 5 2 28]
def c41_0 : ACode := .seq (.ops o41_1) (.seq (.draw [] 0 o41_3 []) (.seq (.ops o41_5) (.seq (.ops o41_7) (.ret))))
def a41 : AFun := ⟨29, [.cell true eL 2], c41_0⟩
theorem ok41 : OkFun Tryz.prog 41 a41 := okm Tryz.func41 (by kernel_rfl)
def o42_1 : List AOper := [oN 4 (.alloc ev0)]
def o42_3 : List AOper := [mT 10 0, nC 11 10, fA 12 12 11, lP 13 12, mT 5 13]
def o42_5 : List AOper := [mT 14 5, cl 15 false 66 [14] rI, mT 6 15]
def o42_7 : List AOper := [mT 16 5, mT 17 1, cl 18 false 67 [16, 17] rB]
def o42_9 : List (AOper × Option Nat) := [(mT 19 0, none), (nC 20 19, none), (fA 21 13 20, none), (lI 22 21, none), (mT 23 5, none), (cl 24 false 66 [23] rI, none), (mT 25 6, none), (b2 26 .sub 24 25, none), (b2 27 .add 22 26, none), (nC 28 19, none), (fA 29 13 28, none), (sT 1 29 27, none)]
def o42_12 : List AOper := [mT 30 5, cl 31 false 68 [30] rB]
def o42_15 : List AOper := [mT 32 0, nC 33 32, fA 34 12 33, oZ (.store 1 (.tmp 34) (.const (.pointer none)))]
def o42_17 : List AOper := [mT 36 5, oN 37 (.call false (.func 69) [.tmp 36] [(false, [.int .i64]), (false, [.int .i64]), (false, [.bool])] false), mT 35 37, xt 38 35 0, xt 39 35 1, xt 40 35 2, mT 7 38, mT 8 39, mT 9 40]
def o42_19 : List AOper := [mT 41 9]
def o42_22 : List AOper := [mT 42 0, mT 43 0, mT 44 7, mT 45 8, nC 46 42, fA 47 4 46, sT 1 47 44, nC 48 43, fA 49 5 48, sT 1 49 45]
def o42_23 : List (AOper × Option Nat) := [(mT 50 0, none), (mT 51 0, none), (nC 52 51, none), (fA 53 3 52, none), (lS 54 53, none), (ln 55 54, none), (mT 56 0, none), (nC 57 56, none), (fA 58 2 57, none), (lI 59 58, none), (cl 60 false 28 [55, 59] rP, none), (nC 61 50, none), (fA 62 12 61, none), (sT 1 62 60, none)]
def o42_27 : List AOper := [oN 63 (.build ev0 [(0, 1, .const (.int .i64 1))]), sT 5 4 63]
def c42_26 : ACode := .seq (.ops o42_27) (.ret)
def c42_0 : ACode := .seq (.ops o42_1) (.seq (.ops o42_3) (.seq (.ops o42_5) (.seq (.ops o42_7) (.seq (.draw [] 0 o42_9 [(3, 5)]) (.seq (.seq (.ops o42_12) (.cond (.tmp 31) (.seq (.ops o42_15) (.seq (.ops o42_17) (.seq (.ops o42_19) (.cond (.tmp 41) (.seq (.ops o42_22) (.draw [] 0 o42_23 [])) (.skip))))) (.skip))) (.clear zl36 c42_26))))))
def a42 : AFun := ⟨64, [.cell true eL 4], c42_0⟩
theorem ok42 : OkFun Tryz.prog 42 a42 := okm Tryz.func42 (by kernel_rfl)
def o43_1 : List AOper := [oN 4 (.alloc ev0)]
def o43_4 : List AOper := [mT 10 0, nC 11 10, fA 12 12 11, oN 13 (.load false [.bool] (.tmp 12)), un 14 13]
def o43_7 : List AOper := [mT 15 0, mT 16 0, nC 17 16, fA 18 11 17, lS 19 18, oN 20 (.indexAddr 1 (.tmp 19) (.const (.int .i64 0))), lI 21 20, nC 22 15, fA 23 13 22, sT 1 23 21]
def o43_9 : List AOper := [mT 24 0, mT 25 0, nC 26 25, fA 27 11 26, lS 28 27, oN 29 (.slice 1 (.tmp 28) (some (.const (.int .i64 1))) none), nC 30 24, fA 31 11 30, sT 1 31 29]
def o43_11 : List (AOper × Option Nat) := [(mT 32 0, none), (mT 33 0, none), (nC 34 33, none), (fA 35 7 34, none), (mT 36 0, none), (nC 37 36, none), (fA 38 13 37, none), (lI 39 38, none), (cl 40 false 70 [35, 39] rS, none), (nC 41 32, none), (fA 42 14 41, none), (sT 1 42 40, none)]
def o43_13 : List (AOper × Option Nat) := [(mT 44 0, none), (nC 45 44, none), (fA 46 0 45, none), (l2 47 46, none), (mT 48 0, none), (nC 49 48, none), (fA 50 13 49, none), (lI 51 50, none), (mT 52 0, none), (nC 53 52, none), (fA 54 14 53, none), (lS 55 54, none), (oN 56 (.call false (.func 71) [.tmp 47, .tmp 51, .tmp 55] [(true, [.int .i64, .slice, .int .i64, .bool, .int .u64, .int .i64]), (false, [.bool])] false), none), (mT 43 56, none), (xt 57 43 0, none), (xt 58 43 1, none), (nC 5 5, none), (sT 6 5 57, none), (mT 6 58, none)]
def f43_13 : List AOper := [oN 5 (.alloc [.int .i64 0, .slice none 0 0, .int .i64 0, .bool false, .int .u64 0, .int .i64 0])]
def o43_15 : List AOper := [mT 59 0, oN 60 (.load true [.int .i64, .slice, .int .i64, .bool, .int .u64, .int .i64] (.tmp 5)), nC 61 59, fA 62 15 61, sT 6 62 60]
def o43_16 : List AOper := [mT 63 0, mT 64 6, nC 65 63, fA 66 12 65, sT 1 66 64]
def c43_14 : ACode := .seq (.ops o43_15) (.ops o43_16)
def o43_19 : List (AOper × Option Nat) := [(mT 67 0, none), (nC 68 67, none), (fA 69 15 68, none), (fA 70 1 69, none), (lS 71 70, none), (ln 72 71, none), (mT 73 0, none), (nC 74 73, none), (fA 75 15 74, none), (fA 76 5 75, none), (lI 77 76, none), (mT 7 72, none), (mT 8 77, none)]
def o43_21 : List AOper := [mT 78 0, nC 79 78, fA 80 15 79, mT 81 1, cl 82 false 72 [80, 81] rB]
def o43_23 : List (AOper × Option Nat) := [(mT 83 0, none), (mT 84 0, none), (nC 85 84, none), (fA 86 30 85, none), (lI 87 86, none), (mT 88 0, none), (nC 89 88, none), (fA 90 15 89, none), (fA 91 5 90, none), (lI 92 91, none), (b2 93 .add 87 92, none), (mT 94 8, none), (b2 95 .sub 93 94, none), (nC 96 83, none), (fA 97 30 96, none), (sT 1 97 95, none)]
def o43_25 : List AOper := [mT 98 0, nC 99 98, fA 100 15 99, fA 101 1 100, lS 102 101, ln 103 102, mT 9 103]
def o43_27 : List AOper := [mT 104 0, mT 105 9, bC 106 .gtr 105 0, nC 107 104, fA 108 12 107, sT 1 108 106]
def o43_29 : List (AOper × Option Nat) := [(mT 109 0, none), (nC 110 109, none), (fA 111 13 110, none), (lI 112 111, none), (mT 113 7, none), (mT 114 0, none), (nC 115 114, none), (fA 116 15 115, none), (fA 117 2 116, none), (lI 118 117, none), (b2 119 .eql 113 118, none), (mT 120 119, none), (mG 121 9 120 true, none), (mG 122 7 120 true, none), (bH2 123 .lss 121 122 120 true, none), (pF 124 120 123, none), (mT 125 9, none), (bC 126 .eql 125 0, none), (oN 127 (.build ev0 [(0, 1, .const (.int .i64 3)), (2, 1, .tmp 112), (3, 1, .tmp 124), (4, 1, .tmp 126)]), none), (sT 5 4 127, none)]
def c43_28 : ACode := .seq (.draw [] 0 o43_29 []) (.ret)
def c43_18 : ACode := .seq (.draw [] 0 o43_19 []) (.seq (.ops o43_21) (.seq (.draw [] 0 o43_23 []) (.seq (.ops o43_25) (.seq (.ops o43_27) (.clear zl37 c43_28)))))
def c43_0 : ACode := .seq (.ops o43_1) (.seq (.seq (.ops o43_4) (.cond (.tmp 14) (.seq (.ops o43_7) (.seq (.ops o43_9) (.seq (.draw [] 0 o43_11 []) (.seq (.draw f43_13 0 o43_13 [(16, 12)]) (.clear zl38 c43_14))))) (.skip))) (.clear zl39 c43_18))
def a43 : AFun := ⟨128, [.cell true eL 4], c43_0⟩
theorem ok43 : OkFun Tryz.prog 43 a43 := okm Tryz.func43 (by kernel_rfl)
def o44_1 : List AOper := [bx 3 1, mC 4 (.bool false)]
def o44_4 : List (AOper × Option Nat) := [(fA 7 0 3, none), (lI 8 7, none), (bC 9 .lss 8 0, none), (mT 10 9, none), (fG 11 0 3 10 false, none), (lG 12 11 10 false, none), (mG 13 0 10 false, none), (⟨some 14, .nilCheck (.tmp 13), some (10, false)⟩, none), (fG 15 0 14 10 false, none), (fG 16 0 15 10 false, none), (lG 17 16 10 false, none), (bH2 18 .geq 12 17 10 false, none), (pT 19 10 18, none), (mT 20 19, none), (fG 21 1 3 20 false, none), (⟨some 22, .load true [.int .i64, .int .i64, .int .i64] (.tmp 21), some (20, false)⟩, none), (⟨some 23, .call true (.func 31) [.tmp 22] rB true, some (20, false)⟩, none), (⟨some 24, .un .not (.tmp 23), some (20, false)⟩, none), (pT 25 20 24, none)]
def o44_7 : List AOper := [mC 4 (.bool false)]
def o44_11 : List AOper := [mT 26 0, fA 27 0 3, lI 28 27, cl 29 false 73 [26, 28] rI, mT 5 29]
def o44_14 : List (AOper × Option Nat) := [(mT 30 5, none), (bC 31 .lss 30 0, none), (mT 32 31, none), (mG 33 0 32 true, none), (⟨some 34, .nilCheck (.tmp 33), some (32, true)⟩, none), (fG 35 3 34 32 true, none), (⟨some 36, .load false [.slice] (.tmp 35), some (32, true)⟩, none), (⟨some 37, .len (.tmp 36), some (32, true)⟩, none), (mG 38 0 32 true, none), (⟨some 39, .nilCheck (.tmp 38), some (32, true)⟩, none), (fG 40 2 39 32 true, none), (lG 41 40 32 true, none), (bH2 42 .geq 37 41 32 true, none), (pF 43 32 42, none)]
def o44_17 : List AOper := [mC 4 (.bool false)]
def o44_22 : List AOper := [mT 44 5, bC 45 .lss 44 0]
def o44_25 : List AOper := [mT 46 0, nC 47 46, fA 48 3 47, lS 49 48, ln 50 49, mT 5 50]
def o44_26 : List (AOper × Option Nat) := [(mT 51 0, none), (mT 52 0, none), (nC 53 52, none), (fA 54 3 53, none), (lS 55 54, none), (fA 56 0 3, none), (lI 57 56, none), (oN 58 (.build [.int .i64 0, .int .u64 0, .int .u64 0, .int .u64 0] [(0, 1, .tmp 57)]), none), (oN 59 (.buildSlice 4 1 [.int .i64 0, .int .u64 0, .int .u64 0, .int .u64 0] [(0, 4, .tmp 58)]), none), (oN 60 (.append 4 32 (.tmp 55) (.tmp 59)), none), (nC 61 51, none), (fA 62 3 61, none), (sT 1 62 60, none)]
def o44_29 : List AOper := [mT 63 0, nC 64 63, fA 65 3 64, lS 66 65, mT 67 5, iA 68 4 66 67, fA 69 1 68, oN 70 (.load true [.int .u64, .int .u64, .int .u64] (.tmp 69)), oN 6 (.alloc [.int .u64 0, .int .u64 0, .int .u64 0]), sT 3 6 70]
def o44_31 : List (AOper × Option Nat) := [(mT 71 0, none), (nC 72 71, none), (fA 73 3 72, none), (lS 74 73, none), (mT 75 5, none), (fA 76 0 3, none), (lI 77 76, none), (oN 78 (.indexArr 3 1 (.tmp 6) (.const (.int .i64 0))), none), (oN 79 (.load false [.int .u64] (.tmp 78)), none), (fA 80 1 3, none), (fA 81 0 80, none), (lI 82 81, none), (oN 83 (.conv .u64 (.tmp 82)), none), (b2 84 .add 79 83, none), (oN 85 (.indexArr 3 1 (.tmp 6) (.const (.int .i64 1))), none), (oN 86 (.load false [.int .u64] (.tmp 85)), none), (fA 87 1 3, none), (fA 88 1 87, none), (lI 89 88, none), (oN 90 (.conv .u64 (.tmp 89)), none), (b2 91 .add 86 90, none), (oN 92 (.indexArr 3 1 (.tmp 6) (.const (.int .i64 2))), none), (oN 93 (.load false [.int .u64] (.tmp 92)), none), (fA 94 1 3, none), (fA 95 2 94, none), (lI 96 95, none), (oN 97 (.conv .u64 (.tmp 96)), none), (b2 98 .add 93 97, none), (oN 99 (.build [.int .u64 0, .int .u64 0, .int .u64 0] [(0, 1, .tmp 84), (1, 1, .tmp 91), (2, 1, .tmp 98)]), none), (oN 100 (.build [.int .i64 0, .int .u64 0, .int .u64 0, .int .u64 0] [(0, 1, .tmp 77), (1, 3, .tmp 99)]), none), (iA 101 4 74 75, none), (sT 4 101 100, none)]
def o44_33 : List AOper := [mC 4 (.bool true)]
def c44_28 : ACode := .seq (.ops o44_29) (.seq (.draw [] 0 o44_31 []) (.seq (.ops o44_33) (.ret)))
def c44_0 : ACode := .seq (.ops o44_1) (.seq (.seq (.draw [] 0 o44_4 []) (.cond (.tmp 25) (.seq (.ops o44_7) (.ret)) (.skip))) (.seq (.ops o44_11) (.seq (.seq (.draw [] 0 o44_14 []) (.cond (.tmp 43) (.seq (.ops o44_17) (.ret)) (.skip))) (.seq (.seq (.ops o44_22) (.cond (.tmp 45) (.seq (.ops o44_25) (.draw [] 0 o44_26 [(4, 8)])) (.skip))) (.clear zl40 c44_28)))))
def a44 : AFun := ⟨102, [.tmp 4], c44_0⟩
theorem ok44 : OkFun Tryz.prog 44 a44 := okm Tryz.func44 (by kernel_rfl)
def o45_1 : List AOper := [mC 2 (.slice none 0 0)]
def o45_3 : List AOper := [mC 3 (.slice none 0 0)]
def o45_6 : List AOper := [mC 4 (.int .i64 0)]
def o45_11 : List AOper := [mT 7 4, mT 8 0, nC 9 8, fA 10 0 9, fA 11 1 10, lI 12 11, b2 13 .lss 7 12]
def o45_18 : List AOper := [mT 17 0, mT 18 4, oN 19 (.call false (.func 74) [.tmp 17, .tmp 18] [(false, [.slice]), (false, [.slice])] false), mT 16 19, xt 20 16 0, xt 21 16 1, mT 5 20, mT 6 21]
def o45_20 : List AOper := [mT 22 5, ln 23 22, bC 24 .gtr 23 0]
def o45_22 : List AOper := [mT 25 3, mT 26 4, oN 27 (.buildSlice 1 1 [.int .i64 0] [(0, 1, .tmp 26)]), oN 28 (.append 1 8 (.tmp 25) (.tmp 27)), mT 3 28]
def o45_24 : List AOper := [mT 14 4, bC 15 .add 14 1, mT 4 15]
def c45_24 : ACode := .ops o45_24
def b45_8 : ACode := .post (.seq (.seq (.ops o45_11) (.cond (.tmp 13) (.skip) (.exit 0))) (.seq (.block 1 (.seq (.ops o45_18) (.seq (.ops o45_20) (.cond (.tmp 24) (.ops o45_22) (.skip))))) (.clear zl41 c45_24))) zl41
def o45_26 : List AOper := [mT 29 3, mT 2 29]
def c45_25 : ACode := .seq (.ops o45_26) (.ret)
def c45_0 : ACode := .seq (.ops o45_1) (.seq (.ops o45_3) (.seq (.seq (.ops o45_6) (.block 0 (.clear zl41 (.loop b45_8)))) (.clear zl42 c45_25)))
def a45 : AFun := ⟨30, [.tmp 2], c45_0⟩
theorem ok45 : OkFun Tryz.prog 45 a45 := okm Tryz.func45 (by kernel_rfl)
def o46_1 : List AOper := [mC 4 (.bool false)]
def o46_4 : List AOper := [mT 8 0, nC 9 8, fA 10 1 9, lI 11 10, bC 12 .eql 11 0, mT 13 12, mG 14 0 13 false, oG 15 (.nilCheck (.tmp 14)) 13 false, fG 16 4 15 13 false, oG 17 (.load false [.bool] (.tmp 16)) 13 false, pT 18 13 17, mT 19 18, mG 20 1 19 false, oG 21 (.nilCheck (.tmp 20)) 19 false, fG 22 0 21 19 false, oG 23 (.load false [.slice] (.tmp 22)) 19 false, oG 24 (.len (.tmp 23)) 19 false, bGC 25 .eql 24 0 19 false, pT 26 19 25]
def o46_7 : List AOper := [mC 4 (.bool false)]
def o46_12 : List AOper := [mT 27 0, nC 28 27, fA 29 3 28, oN 30 (.load false [.bool] (.tmp 29)), un 31 30]
def o46_15 : List AOper := [mT 33 1, oN 34 (.call false (.func 75) [.tmp 33, .const (.int .i64 0)] [(false, [.int .u64]), (false, [.bool])] false), mT 32 34, xt 35 32 0, xt 36 32 1, mT 5 35, mT 6 36]
def o46_17 : List AOper := [mT 37 0, mT 38 5, nC 39 37, fA 40 5 39, sT 1 40 38]
def o46_19 : List (AOper × Option Nat) := [(mT 41 0, none), (mT 42 0, none), (nC 43 42, none), (fA 44 5 43, none), (oN 45 (.load false [.int .u64] (.tmp 44)), none), (mT 46 0, none), (nC 47 46, none), (fA 48 0 47, none), (lI 49 48, none), (oN 50 (.conv .u64 (.tmp 49)), none), (b2 51 .lss 45 50, none), (nC 52 41, none), (fA 53 3 52, none), (sT 1 53 51, none)]
def o46_21 : List AOper := [mT 54 0, mT 55 0, nC 56 55, fA 57 3 56, oN 58 (.load false [.bool] (.tmp 57)), un 59 58, nC 60 54, fA 61 4 60, sT 1 61 59]
def o46_23 : List AOper := [mC 4 (.bool true)]
def c46_22 : ACode := .seq (.ops o46_23) (.ret)
def o46_27 : List AOper := [mT 62 0, nC 63 62, fA 64 3 63, oZ (.store 1 (.tmp 64) (.const (.bool false)))]
def o46_29 : List (AOper × Option Nat) := [(mT 65 0, none), (nC 66 65, none), (fA 67 0 66, none), (lI 68 67, none), (mT 69 0, none), (nC 70 69, none), (fA 71 5 70, none), (oN 72 (.load false [.int .u64] (.tmp 71)), none), (oN 73 (.conv .i64 (.tmp 72)), none), (mT 74 0, none), (nC 75 74, none), (fA 76 1 75, none), (lI 77 76, none), (b2 78 .add 73 77, none), (oN 79 (.minmax false [.tmp 68, .tmp 78]), none), (mT 7 79, none)]
def o46_32 : List AOper := [mT 80 1, mT 81 0, nC 82 81, fA 83 5 82, oN 84 (.load false [.int .u64] (.tmp 83)), mT 85 7, oN 86 (.conv .u64 (.tmp 85)), oN 87 (.call false (.func 76) [.tmp 80, .const (.int .i64 0), .tmp 84, .tmp 86] rB true)]
def o46_35 : List AOper := [mT 88 0, mT 89 0, nC 90 89, fA 91 5 90, oN 92 (.load false [.int .u64] (.tmp 91)), oN 93 (.conv .i64 (.tmp 92)), nC 94 88, fA 95 6 94, sT 1 95 93]
def o46_37 : List AOper := [mT 96 0, mT 97 7, nC 98 96, fA 99 7 98, sT 1 99 97]
def o46_38 : List AOper := [mT 100 0, nC 101 100, fA 102 4 101, oZ (.store 1 (.tmp 102) (.const (.bool true)))]
def o46_39 : List AOper := [mT 103 0, nC 104 103, fA 105 2 104, lI 106 105, bC 107 .add 106 1, nC 108 103, fA 109 2 108, sT 1 109 107]
def o46_41 : List AOper := [mC 4 (.bool true)]
def c46_40 : ACode := .seq (.ops o46_41) (.ret)
def c46_0 : ACode := .seq (.ops o46_1) (.seq (.seq (.ops o46_4) (.cond (.tmp 26) (.seq (.ops o46_7) (.ret)) (.skip))) (.seq (.seq (.ops o46_12) (.cond (.tmp 31) (.seq (.ops o46_15) (.seq (.ops o46_17) (.seq (.draw [] 0 o46_19 []) (.seq (.ops o46_21) (.clear zl43 c46_22))))) (.skip))) (.seq (.ops o46_27) (.seq (.draw [] 0 o46_29 []) (.seq (.seq (.ops o46_32) (.cond (.tmp 87) (.seq (.ops o46_35) (.seq (.ops o46_37) (.ops o46_38))) (.ops o46_39))) (.clear zl43 c46_40))))))
def a46 : AFun := ⟨110, [.tmp 4], c46_0⟩
theorem ok46 : OkFun Tryz.prog 46 a46 := okm Tryz.func46 (by kernel_rfl)
def o47_1 : List AOper := [mC 2 (.slice none 0 0)]
def o47_4 : List AOper := [mT 3 0, oN 4 (.eqNil 1 false (.tmp 3))]
def o47_7 : List AOper := [mC 2 (.slice none 0 0)]
def o47_11 : List AOper := [oN 5 (.buildSlice 4 0 [] []), mT 6 0, oN 7 (.append 4 32 (.tmp 5) (.tmp 6)), mT 2 7]
def c47_0 : ACode := .seq (.ops o47_1) (.seq (.seq (.ops o47_4) (.cond (.tmp 4) (.seq (.ops o47_7) (.ret)) (.skip))) (.seq (.ops o47_11) (.ret)))
def a47 : AFun := ⟨8, [.tmp 2], c47_0⟩
theorem ok47 : OkFun Tryz.prog 47 a47 := okm Tryz.func47 (by kernel_rfl)
def o48_1 : List AOper := [bx 1 0, mC 2 (.bool false)]
def o48_3 : List AOper := [fA 3 0 1, lI 4 3, oN 5 (.bin .leq (.const (.int .i64 1)) (.tmp 4)), mT 6 5, fG 7 0 1 6 true, lG 8 7 6 true, bGC 9 .leq 8 65536 6 true, pF 10 6 9, mT 11 10, fG 12 1 1 11 true, lG 13 12 11 true, oG 14 (.bin .leq (.const (.int .i64 1)) (.tmp 13)) 11 true, pF 15 11 14, mT 16 15, fG 17 1 1 16 true, lG 18 17 16 true, bGC 19 .leq 18 256 16 true, pF 20 16 19, mT 2 20]
def c48_0 : ACode := .seq (.ops o48_1) (.seq (.ops o48_3) (.ret))
def a48 : AFun := ⟨21, [.tmp 2], c48_0⟩
theorem ok48 : OkFun Tryz.prog 48 a48 := okm Tryz.func48 (by kernel_rfl)
def o49_1 : List AOper := [bx 2 0, mC 4 (.int .i64 0)]
def o49_4 : List AOper := [mT 5 1]
def o49_7 : List AOper := [bC 7 .eql 5 1, mT 6 7]
def o49_10 : List AOper := [mC 4 (.int .i64 0)]
def o49_13 : List AOper := [bC 9 .eql 5 2, mT 8 9]
def o49_16 : List AOper := [mC 4 (.int .i64 1)]
def o49_19 : List AOper := [bC 11 .eql 5 3, mT 10 11]
def o49_22 : List AOper := [fA 12 1 2, lI 13 12, oN 14 (.bin .add (.const (.int .i64 1)) (.tmp 13)), mT 4 14]
def o49_26 : List AOper := [fA 15 1 2, lI 16 15, oN 17 (.bin .mul (.const (.int .i64 2)) (.tmp 16)), oN 18 (.bin .add (.const (.int .i64 1)) (.tmp 17)), mT 4 18]
def c49_25 : ACode := .seq (.ops o49_26) (.ret)
def c49_0 : ACode := .seq (.ops o49_1) (.seq (.seq (.ops o49_4) (.block 0 (.seq (.ops o49_7) (.cond (.tmp 6) (.seq (.ops o49_10) (.ret)) (.seq (.ops o49_13) (.cond (.tmp 8) (.seq (.ops o49_16) (.ret)) (.seq (.ops o49_19) (.cond (.tmp 10) (.seq (.ops o49_22) (.ret)) (.skip))))))))) (.clear zl44 c49_25))
def a49 : AFun := ⟨19, [.tmp 4], c49_0⟩
theorem ok49 : OkFun Tryz.prog 49 a49 := okm Tryz.func49 (by kernel_rfl)
def o50_1 : List AOper := [mC 4 (.pointer none)]
def o50_4 : List AOper := [mT 5 0, oN 6 (.eqNil 0 false (.tmp 5)), mT 7 6, mG 8 0 7 false, oG 9 (.nilCheck (.tmp 8)) 7 false, fG 10 0 9 7 false, oG 11 (.load false [.bool] (.tmp 10)) 7 false, oG 12 (.un .not (.tmp 11)) 7 false, pT 13 7 12]
def o50_7 : List AOper := [mC 4 (.pointer none)]
def o50_11 : List AOper := [mT 14 0, nC 15 14, fA 16 2 15, lI 17 16, bC 18 .add 17 1, nC 19 14, fA 20 2 19, sT 1 20 18]
def o50_14 : List AOper := [mT 21 1, bC 22 .lss 21 0, mT 23 22, mG 24 1 23 false, mG 25 0 23 false, oG 26 (.nilCheck (.tmp 25)) 23 false, fG 27 1 26 23 false, oG 28 (.load false [.slice] (.tmp 27)) 23 false, oG 29 (.len (.tmp 28)) 23 false, bH2 30 .geq 24 29 23 false, pT 31 23 30]
def o50_17 : List AOper := [mC 4 (.pointer none)]
def o50_21 : List AOper := [mT 32 0, nC 33 32, fA 34 1 33, lS 35 34, mT 36 1, iA 37 1 35 36, mT 4 37]
def c50_0 : ACode := .seq (.ops o50_1) (.seq (.seq (.ops o50_4) (.cond (.tmp 13) (.seq (.ops o50_7) (.ret)) (.skip))) (.seq (.ops o50_11) (.seq (.seq (.ops o50_14) (.cond (.tmp 31) (.seq (.ops o50_17) (.ret)) (.skip))) (.seq (.ops o50_21) (.ret)))))
def a50 : AFun := ⟨38, [.tmp 4], c50_0⟩
theorem ok50 : OkFun Tryz.prog 50 a50 := okm Tryz.func50 (by kernel_rfl)
def o51_1 : List AOper := [bx 4 0, mC 8 (.int .i64 0)]
def o51_4 : List AOper := [l2 9 4, cl 10 true 48 [9] rB, un 11 10, mT 12 11, mG 13 2 12 false, bGC 14 .lss 13 0 12 false, pT 15 12 14, mT 16 15, mG 17 2 16 false, mG 18 3 16 false, bH2 19 .geq 17 18 16 false, pT 20 16 19]
def o51_7 : List AOper := [mC 8 (.int .i64 (-1))]
def o51_11 : List AOper := [l2 21 4, mT 22 1, cl 23 true 49 [21, 22] rI, mT 24 2, b2 25 .add 23 24, mT 8 25]
def c51_0 : ACode := .seq (.ops o51_1) (.seq (.seq (.ops o51_4) (.cond (.tmp 20) (.seq (.ops o51_7) (.ret)) (.skip))) (.seq (.ops o51_11) (.ret)))
def a51 : AFun := ⟨26, [.tmp 8], c51_0⟩
theorem ok51 : OkFun Tryz.prog 51 a51 := okm Tryz.func51 (by kernel_rfl)
def o52_1 : List AOper := [mT 5 0, mT 6 1, oN 7 (.call false (.func 25) [.tmp 6, .const (.int .i64 0)] [(false, [.int .u64]), (false, [.bool])] false), mT 4 7, xt 8 4 0, xt 9 4 1, nC 10 5, fA 11 4 10, sT 1 11 8]
def o52_3 : List AOper := [mT 12 0, nC 13 12, fA 14 2 13, oZ (.store 1 (.tmp 14) (.func 77))]
def o52_5 : List (AOper × Option Nat) := [(mT 15 0, none), (nC 16 15, none), (fA 17 4 16, none), (oN 18 (.load false [.int .u64] (.tmp 17)), none), (mT 19 0, none), (nC 20 19, none), (fA 21 0 20, none), (lI 22 21, none), (oN 23 (.conv .u64 (.tmp 22)), none), (b2 24 .geq 18 23, none)]
def o52_7 : List AOper := [mT 25 0, nC 26 25, fA 27 2 26, oZ (.store 1 (.tmp 27) (.const (.nilFunc)))]
def c52_0 : ACode := .seq (.ops o52_1) (.seq (.ops o52_3) (.seq (.draw [] 0 o52_5 []) (.cond (.tmp 24) (.ops o52_7) (.skip))))
def a52 : AFun := ⟨28, [], c52_0⟩
theorem ok52 : OkFun Tryz.prog 52 a52 := okm Tryz.func52 (by kernel_rfl)
def o53_1 : List AOper := [bx 1 0, oN 2 (.alloc [.int .i64 0, .int .i64 0, .int .i64 0])]
def o53_3 : List AOper := [fA 3 0 1, lI 4 3, fA 5 1 1, lI 6 5, fA 7 2 1, lI 8 7, oN 9 (.build [.int .i64 0, .int .i64 0, .int .i64 0] [(0, 1, .tmp 4), (1, 1, .tmp 6), (2, 1, .tmp 8)]), sT 3 2 9]
def c53_0 : ACode := .seq (.ops o53_1) (.seq (.ops o53_3) (.ret))
def a53 : AFun := ⟨10, [.cell true [.int .i64, .int .i64, .int .i64] 2], c53_0⟩
theorem ok53 : OkFun Tryz.prog 53 a53 := okm Tryz.func53 (by kernel_rfl)
def o54_1 : List AOper := [bx 2 0, mC 4 (.bool false)]
def o54_4 : List AOper := [oN 7 (.load true [.int .i64, .int .i64, .int .i64] (.tmp 2)), mC 8 (.int .i64 0)]
def o54_8 : List AOper := [bC 9 .lss 8 3]
def o54_16 : List AOper := [oN 10 (.index false 3 1 (.tmp 7) (.tmp 8)), mT 6 10]
def o54_18 : List AOper := [mT 11 6, bC 12 .lss 11 0, mT 13 12, mG 14 6 13 false, mG 15 1 13 false, bH2 16 .gtr 14 15 13 false, pT 17 13 16]
def o54_21 : List AOper := [mC 4 (.bool false)]
def o54_24 : List AOper := [bC 18 .add 8 1, mT 8 18]
def c54_24 : ACode := .ops o54_24
def b54_6 : ACode := .post (.seq (.ops o54_8) (.seq (.cond (.tmp 9) (.skip) (.exit 0)) (.seq (.block 1 (.seq (.ops o54_16) (.seq (.ops o54_18) (.cond (.tmp 17) (.seq (.ops o54_21) (.ret)) (.skip))))) (.clear zl45 c54_24)))) zl45
def o54_26 : List AOper := [mC 4 (.bool true)]
def c54_25 : ACode := .seq (.ops o54_26) (.ret)
def c54_0 : ACode := .seq (.ops o54_1) (.seq (.seq (.ops o54_4) (.block 0 (.clear zl45 (.loop b54_6)))) (.clear zl46 c54_25))
def a54 : AFun := ⟨19, [.tmp 4], c54_0⟩
theorem ok54 : OkFun Tryz.prog 54 a54 := okm Tryz.func54 (by kernel_rfl)
def o55_1 : List AOper := [bx 2 0, mC 4 (.bool false)]
def o55_3 : List AOper := [fA 5 0 2, lI 6 5, bC 7 .geq 6 0, mT 8 7, fG 9 0 2 8 true, lG 10 9 8 true, mG 11 1 8 true, bH2 12 .leq 10 11 8 true, pF 13 8 12, mT 14 13, fG 15 1 2 14 true, lG 16 15 14 true, bGC 17 .geq 16 0 14 true, pF 18 14 17, mT 19 18, fG 20 1 2 19 true, lG 21 20 19 true, mG 22 1 19 true, bH2 23 .leq 21 22 19 true, pF 24 19 23, mT 25 24, fG 26 2 2 25 true, lG 27 26 25 true, bGC 28 .geq 27 0 25 true, pF 29 25 28, mT 30 29, fG 31 2 2 30 true, lG 32 31 30 true, mG 33 1 30 true, bH2 34 .leq 32 33 30 true, pF 35 30 34, mT 4 35]
def c55_0 : ACode := .seq (.ops o55_1) (.seq (.ops o55_3) (.ret))
def a55 : AFun := ⟨36, [.tmp 4], c55_0⟩
theorem ok55 : OkFun Tryz.prog 55 a55 := okm Tryz.func55 (by kernel_rfl)
def o56_1 : List AOper := [mC 2 (.bool false)]
def o56_3 : List AOper := [mT 3 0, oN 4 (.eqNil 0 true (.tmp 3)), mT 5 4, mG 6 0 5 true, oG 7 (.nilCheck (.tmp 6)) 5 true, fG 8 3 7 5 true, oG 9 (.load false [.any] (.tmp 8)) 5 true, oG 10 (.eqNil 3 true (.tmp 9)) 5 true, pF 11 5 10, mT 2 11]
def c56_0 : ACode := .seq (.ops o56_1) (.seq (.ops o56_3) (.ret))
def a56 : AFun := ⟨12, [.tmp 2], c56_0⟩
theorem ok56 : OkFun Tryz.prog 56 a56 := okm Tryz.func56 (by kernel_rfl)
def o57_1 : List AOper := [mC 2 (.bool false)]
def o57_3 : List AOper := [mT 3 0, oN 4 (.eqNil 0 true (.tmp 3)), mT 5 4, mG 6 0 5 true, oG 7 (.nilCheck (.tmp 6)) 5 true, fG 8 2 7 5 true, lG 9 8 5 true, bGC 10 .gtr 9 0 5 true, pF 11 5 10, mT 2 11]
def c57_0 : ACode := .seq (.ops o57_1) (.seq (.ops o57_3) (.ret))
def a57 : AFun := ⟨12, [.tmp 2], c57_0⟩
theorem ok57 : OkFun Tryz.prog 57 a57 := okm Tryz.func57 (by kernel_rfl)
def o58_1 : List AOper := [mC 2 (.int .i64 0)]
def o58_4 : List AOper := [mT 3 0, oN 4 (.eqNil 0 false (.tmp 3))]
def o58_7 : List AOper := [mC 2 (.int .i64 0)]
def o58_11 : List AOper := [mT 5 0, nC 6 5, fA 7 5 6, lI 8 7, mT 2 8]
def c58_0 : ACode := .seq (.ops o58_1) (.seq (.seq (.ops o58_4) (.cond (.tmp 4) (.seq (.ops o58_7) (.ret)) (.skip))) (.seq (.ops o58_11) (.ret)))
def a58 : AFun := ⟨9, [.tmp 2], c58_0⟩
theorem ok58 : OkFun Tryz.prog 58 a58 := okm Tryz.func58 (by kernel_rfl)
def o59_1 : List AOper := [mC 4 (.bool false)]
def o59_4 : List (AOper × Option Nat) := [(mT 6 0, none), (cl 7 false 78 [6] rI, none), (bC 8 .eql 7 0, none), (mT 9 8, none), (mG 10 1 9 false, none), (⟨some 11, .call false (.func 36) [.tmp 10] rI true, some (9, false)⟩, none), (mG 12 0 9 false, none), (⟨some 13, .nilCheck (.tmp 12), some (9, false)⟩, none), (fG 14 0 13 9 false, none), (lG 15 14 9 false, none), (bH2 16 .neq 11 15 9 false, none), (pT 17 9 16, none)]
def o59_7 : List AOper := [mC 4 (.bool false)]
def o59_11 : List (AOper × Option Nat) := [(mT 18 0, none), (nC 19 18, none), (fA 20 1 19, none), (lS 21 20, none), (mT 22 0, none), (nC 23 22, none), (fA 24 2 23, none), (lI 25 24, none), (iA 26 2 21 25, none), (oN 27 (.load true [.int .i64, .int .u64] (.tmp 26)), none), (oN 5 (.alloc [.int .i64 0, .int .u64 0]), none), (sT 2 5 27, none)]
def o59_14 : List AOper := [mT 28 0, nC 29 28, fA 30 3 29, oN 31 (.load false [.bool] (.tmp 30)), un 32 31]
def o59_17 : List AOper := [mT 34 0, mT 35 0, mT 36 1, fA 37 0 5, lI 38 37, oN 39 (.call false (.func 25) [.tmp 36, .tmp 38] [(false, [.int .u64]), (false, [.bool])] false), mT 33 39, xt 40 33 0, xt 41 33 1, nC 42 34, fA 43 4 42, sT 1 43 40, nC 44 35, fA 45 3 44, sT 1 45 41]
def o59_19 : List AOper := [mC 4 (.bool true)]
def o59_23 : List AOper := [mT 46 0, nC 47 46, fA 48 3 47, oZ (.store 1 (.tmp 48) (.const (.bool false)))]
def o59_26 : List (AOper × Option Nat) := [(mT 49 1, none), (fA 50 0 5, none), (lI 51 50, none), (mT 52 0, none), (nC 53 52, none), (fA 54 4 53, none), (oN 55 (.load false [.int .u64] (.tmp 54)), none), (mT 56 0, none), (nC 57 56, none), (fA 58 4 57, none), (oN 59 (.load false [.int .u64] (.tmp 58)), none), (fA 60 1 5, none), (oN 61 (.load false [.int .u64] (.tmp 60)), none), (b2 62 .add 59 61, none), (cl 63 false 79 [49, 51, 55, 62] rB, none)]
def o59_29 : List AOper := [mT 64 0, nC 65 64, fA 66 2 65, lI 67 66, bC 68 .add 67 1, nC 69 64, fA 70 2 69, sT 1 70 68]
def o59_31 : List AOper := [mC 4 (.bool true)]
def o59_35 : List AOper := [mT 71 0, nC 72 71, fA 73 5 72, lI 74 73, bC 75 .add 74 1, nC 76 71, fA 77 5 76, sT 1 77 75]
def o59_37 : List AOper := [mC 4 (.bool true)]
def c59_36 : ACode := .seq (.ops o59_37) (.ret)
def c59_0 : ACode := .seq (.ops o59_1) (.seq (.seq (.draw [] 0 o59_4 [(9, 5)]) (.cond (.tmp 17) (.seq (.ops o59_7) (.ret)) (.skip))) (.seq (.draw [] 0 o59_11 [(3, 10), (7, 10), (9, 10)]) (.seq (.seq (.ops o59_14) (.cond (.tmp 32) (.seq (.ops o59_17) (.seq (.ops o59_19) (.ret))) (.skip))) (.seq (.ops o59_23) (.seq (.seq (.draw [] 0 o59_26 []) (.cond (.tmp 63) (.seq (.ops o59_29) (.seq (.ops o59_31) (.ret))) (.skip))) (.seq (.ops o59_35) (.clear zl47 c59_36)))))))
def a59 : AFun := ⟨78, [.tmp 4], c59_0⟩
theorem ok59 : OkFun Tryz.prog 59 a59 := okm Tryz.func59 (by kernel_rfl)
def o60_1 : List AOper := [mC 2 (.bool false)]
def o60_3 : List AOper := [mT 3 0, cl 4 false 78 [3] rI, bC 5 .eql 4 0, mT 2 5]
def c60_0 : ACode := .seq (.ops o60_1) (.seq (.ops o60_3) (.ret))
def a60 : AFun := ⟨6, [.tmp 2], c60_0⟩
theorem ok60 : OkFun Tryz.prog 60 a60 := okm Tryz.func60 (by kernel_rfl)
def o61_1 : List AOper := [mC 4 (.slice none 0 0)]
def o61_4 : List AOper := [mT 9 0, cl 10 false 56 [9] rB, un 11 10]
def o61_7 : List AOper := [mC 4 (.slice none 0 0)]
def o61_11 : List AOper := [mC 5 (.slice none 0 0), mC 6 (.slice none 0 0)]
def o61_14 : List AOper := [mT 12 0, nC 13 12, fA 14 4 13, lS 15 14, ln 16 15, mC 17 (.int .i64 0)]
def o61_18 : List AOper := [b2 18 .lss 17 16]
def o61_26 : List AOper := [iA 19 4 15 17, oN 20 (.load true [.int .i64, .int .u64, .int .u64, .int .u64] (.tmp 19)), oN 8 (.alloc [.int .i64 0, .int .u64 0, .int .u64 0, .int .u64 0]), sT 4 8 20]
def o61_29 : List (AOper × Option Nat) := [(mT 21 0, none), (nC 22 21, none), (fA 23 0 22, none), (l2 24 23, none), (fA 25 0 8, none), (lI 26 25, none), (cl 27 true 29 [24, 26] rI, none), (mT 28 1, none), (b2 29 .eql 27 28, none)]
def o61_32 : List AOper := [mT 30 5, oN 31 (.load true [.int .i64, .int .u64, .int .u64, .int .u64] (.tmp 8)), oN 32 (.buildSlice 4 1 [.int .i64 0, .int .u64 0, .int .u64 0, .int .u64 0] [(0, 4, .tmp 31)]), oN 33 (.append 4 32 (.tmp 30) (.tmp 32)), mT 5 33]
def o61_34 : List (AOper × Option Nat) := [(mT 34 0, none), (nC 35 34, none), (fA 36 3 35, none), (oN 37 (.load false [.any] (.tmp 36)), none), (fA 38 0 8, none), (lI 39 38, none), (⟨none, .map .del .i64 .i64 (.tmp 37) (.tmp 39) (.const (.bool false)), none⟩, none)]
def o61_38 : List (AOper × Option Nat) := [(mT 40 0, none), (nC 41 40, none), (fA 42 3 41, none), (oN 43 (.load false [.any] (.tmp 42)), none), (fA 44 0 8, none), (lI 45 44, none), (mT 46 6, none), (ln 47 46, none), (⟨none, .map .upd .i64 .i64 (.tmp 43) (.tmp 45) (.tmp 47), none⟩, none)]
def o61_39 : List AOper := [mT 48 6, oN 49 (.load true [.int .i64, .int .u64, .int .u64, .int .u64] (.tmp 8)), oN 50 (.buildSlice 4 1 [.int .i64 0, .int .u64 0, .int .u64 0, .int .u64 0] [(0, 4, .tmp 49)]), oN 51 (.append 4 32 (.tmp 48) (.tmp 50)), mT 6 51]
def o61_40 : List AOper := [bC 52 .add 17 1, mT 17 52]
def c61_40 : ACode := .ops o61_40
def b61_16 : ACode := .post (.seq (.ops o61_18) (.seq (.cond (.tmp 18) (.skip) (.exit 0)) (.seq (.block 1 (.seq (.ops o61_26) (.seq (.seq (.draw [] 0 o61_29 []) (.cond (.tmp 29) (.seq (.ops o61_32) (.seq (.draw [] 0 o61_34 []) (.exit 1))) (.skip))) (.seq (.draw [] 0 o61_38 []) (.ops o61_39))))) (.clear zl48 c61_40)))) zl48
def o61_42 : List AOper := [mT 53 0, mT 54 6, nC 55 53, fA 56 4 55, sT 1 56 54]
def o61_44 : List AOper := [mT 57 5, mT 4 57]
def c61_41 : ACode := .seq (.ops o61_42) (.seq (.ops o61_44) (.ret))
def c61_0 : ACode := .seq (.ops o61_1) (.seq (.seq (.ops o61_4) (.cond (.tmp 11) (.seq (.ops o61_7) (.ret)) (.skip))) (.seq (.ops o61_11) (.seq (.seq (.ops o61_14) (.block 0 (.clear zl48 (.loop b61_16)))) (.clear zl49 c61_41))))
def a61 : AFun := ⟨58, [.tmp 4], c61_0⟩
theorem ok61 : OkFun Tryz.prog 61 a61 := okm Tryz.func61 (by kernel_rfl)
def o62_1 : List AOper := [bx 3 0, mC 6 (.pointer none)]
def o62_4 : List AOper := [l2 11 3, mT 12 1, cl 13 true 80 [11, 12] rI, bC 14 .lss 13 0, mT 15 14, mG 16 2 15 false, oG 17 (.len (.tmp 16)) 15 false, bGC 18 .gtr 17 4096 15 false, pT 19 15 18]
def o62_7 : List AOper := [mC 6 (.pointer none)]
def o62_12 : List AOper := [mT 20 2, ln 21 20, mC 22 (.int .i64 0)]
def o62_16 : List AOper := [b2 23 .lss 22 21]
def o62_24 : List AOper := [iA 24 4 20 22, oN 25 (.load true [.int .i64, .int .u64, .int .u64, .int .u64] (.tmp 24)), oN 8 (.alloc [.int .i64 0, .int .u64 0, .int .u64 0, .int .u64 0]), sT 4 8 25]
def o62_26 : List AOper := [l2 26 3, fA 27 0 8, lI 28 27, cl 29 true 29 [26, 28] rI, mT 30 1, b2 31 .neq 29 30]
def o62_29 : List AOper := [mC 6 (.pointer none)]
def o62_32 : List AOper := [bC 32 .add 22 1, mT 22 32]
def c62_32 : ACode := .ops o62_32
def b62_14 : ACode := .post (.seq (.ops o62_16) (.seq (.cond (.tmp 23) (.skip) (.exit 0)) (.seq (.block 1 (.seq (.ops o62_24) (.seq (.ops o62_26) (.cond (.tmp 31) (.seq (.ops o62_29) (.ret)) (.skip))))) (.clear zl50 c62_32)))) zl50
def o62_34 : List AOper := [l2 33 3, cl 34 true 24 [33] rI, oN 35 (.build [.int .i64 0, .slice none 0 0, .int .i64 0, .bool false, .int .u64 0, .int .i64 0] [(0, 1, .tmp 34)]), bx 36 35, oN 9 (.alloc [.pointer none]), sT 1 9 36]
def o62_37 : List AOper := [l2 37 3, mT 38 1, mT 39 2, cl 40 false 81 [37, 38, 39] [(false, [.any])]]
def o62_40 : List AOper := [oN 10 (.alloc [.int .i64 0, .int .u64 0]), sT 2 10 41]
def o62_42 : List (AOper × Option Nat) := [(lP 42 9, none), (lP 43 9, none), (nC 44 43, none), (fA 45 1 44, none), (lS 46 45, none), (oN 47 (.load true [.int .i64, .int .u64] (.tmp 10)), none), (oN 48 (.buildSlice 2 1 [.int .i64 0, .int .u64 0] [(0, 2, .tmp 47)]), none), (oN 49 (.append 2 16 (.tmp 46) (.tmp 48)), none), (nC 50 42, none), (fA 51 1 50, none), (sT 1 51 49, none)]
def b62_39 : ACode := .block 3 (.draw [] 0 o62_42 [(0, 6), (0, 7), (1, 6), (4, 6)])
def o62_44 : List AOper := [lP 52 9, mT 6 52]
def c62_43 : ACode := .seq (.ops o62_44) (.ret)
def c62_33 : ACode := .seq (.ops o62_34) (.seq (.seq (.ops o62_37) (.block 2 (.clear zl51 (.rangeFunc (.tmp 40) [41] (.ops o62_40) b62_39)))) (.clear zl52 c62_43))
def c62_0 : ACode := .seq (.ops o62_1) (.seq (.seq (.ops o62_4) (.cond (.tmp 19) (.seq (.ops o62_7) (.ret)) (.skip))) (.seq (.seq (.ops o62_12) (.block 0 (.clear zl50 (.loop b62_14)))) (.clear zl53 c62_33)))
def a62 : AFun := ⟨53, [.tmp 6], c62_0⟩
theorem ok62 : OkFun Tryz.prog 62 a62 := okm Tryz.func62 (by kernel_rfl)
def o63_1 : List AOper := [bx 3 1, mC 4 (.bool false)]
def o63_4 : List (AOper × Option Nat) := [(mT 10 0, none), (cl 11 false 56 [10] rB, none), (un 12 11, none), (mT 13 12, none), (mG 14 0 13 false, none), (⟨some 15, .nilCheck (.tmp 14), some (13, false)⟩, none), (fG 16 0 15 13 false, none), (⟨some 17, .load true [.int .i64, .int .i64] (.tmp 16), some (13, false)⟩, none), (fG 18 0 3 13 false, none), (lG 19 18 13 false, none), (⟨some 20, .call true (.func 29) [.tmp 17, .tmp 19] rI true, some (13, false)⟩, none), (bGC 21 .lss 20 0 13 false, none), (pT 22 13 21, none), (mT 23 22, none), (fG 24 1 3 23 false, none), (⟨some 25, .load true [.int .i64, .int .i64, .int .i64] (.tmp 24), some (23, false)⟩, none), (⟨some 26, .call true (.func 30) [.tmp 25] rB true, some (23, false)⟩, none), (⟨some 27, .un .not (.tmp 26), some (23, false)⟩, none), (pT 28 23 27, none)]
def o63_7 : List AOper := [mC 4 (.bool false)]
def o63_11 : List (AOper × Option Nat) := [(mT 30 0, none), (nC 31 30, none), (fA 32 3 31, none), (oN 33 (.load false [.any] (.tmp 32)), none), (fA 34 0 3, none), (lI 35 34, none), (oN 36 (.map (.look true) .i64 .i64 (.tmp 33) (.tmp 35) (.const (.bool false))), none), (mT 29 36, none), (xt 37 29 0, none), (xt 38 29 1, none), (mT 5 37, none), (mT 6 38, none)]
def o63_15 : List (AOper × Option Nat) := [(mT 40 6, none), (un 41 40, none), (mT 42 41, none), (mG 43 0 42 true, none), (⟨some 44, .nilCheck (.tmp 43), some (42, true)⟩, none), (fG 45 4 44 42 true, none), (⟨some 46, .load false [.slice] (.tmp 45), some (42, true)⟩, none), (⟨some 47, .len (.tmp 46), some (42, true)⟩, none), (mG 48 0 42 true, none), (⟨some 49, .nilCheck (.tmp 48), some (42, true)⟩, none), (fG 50 2 49 42 true, none), (lG 51 50 42 true, none), (bH2 52 .eql 47 51 42 true, none), (pF 53 42 52, none), (mT 39 53, none)]
def o63_18 : List AOper := [mC 4 (.bool false)]
def o63_21 : List AOper := [mT 55 6, un 56 55, mT 54 56]
def o63_24 : List AOper := [mT 57 0, nC 58 57, fA 59 4 58, lS 60 59, ln 61 60, mT 5 61]
def o63_26 : List (AOper × Option Nat) := [(mT 62 0, none), (nC 63 62, none), (fA 64 3 63, none), (oN 65 (.load false [.any] (.tmp 64)), none), (fA 66 0 3, none), (lI 67 66, none), (mT 68 5, none), (⟨none, .map .upd .i64 .i64 (.tmp 65) (.tmp 67) (.tmp 68), none⟩, none)]
def o63_27 : List (AOper × Option Nat) := [(mT 69 0, none), (mT 70 0, none), (nC 71 70, none), (fA 72 4 71, none), (lS 73 72, none), (fA 74 0 3, none), (lI 75 74, none), (oN 76 (.build [.int .i64 0, .int .u64 0, .int .u64 0, .int .u64 0] [(0, 1, .tmp 75)]), none), (oN 77 (.buildSlice 4 1 [.int .i64 0, .int .u64 0, .int .u64 0, .int .u64 0] [(0, 4, .tmp 76)]), none), (oN 78 (.append 4 32 (.tmp 73) (.tmp 77)), none), (nC 79 69, none), (fA 80 4 79, none), (sT 1 80 78, none)]
def c63_25 : ACode := .seq (.draw [] 0 o63_26 []) (.draw [] 0 o63_27 [(4, 8)])
def o63_30 : List AOper := [mT 81 0, nC 82 81, fA 83 4 82, lS 84 83, mT 85 5, iA 86 4 84 85, fA 87 1 86, mT 7 87]
def o63_33 : List AOper := [fA 88 1 3, fA 89 0 88, lI 90 89, fA 91 1 3, fA 92 1 91, lI 93 92, fA 94 1 3, fA 95 2 94, lI 96 95, oN 97 (.build [.int .i64 0, .int .i64 0, .int .i64 0] [(0, 1, .tmp 90), (1, 1, .tmp 93), (2, 1, .tmp 96)]), mC 98 (.int .i64 0)]
def o63_37 : List AOper := [bC 99 .lss 98 3]
def o63_45 : List AOper := [mT 100 98, oN 101 (.index false 3 1 (.tmp 97) (.tmp 98)), mT 8 100, mT 9 101]
def o63_46 : List (AOper × Option Nat) := [(mT 102 7, none), (mT 103 8, none), (nC 104 102, none), (oN 105 (.indexArr 3 1 (.tmp 104) (.tmp 103)), none), (oN 106 (.load false [.int .u64] (.tmp 105)), none), (mT 107 9, none), (oN 108 (.conv .u64 (.tmp 107)), none), (b2 109 .add 106 108, none), (nC 110 102, none), (oN 111 (.indexArr 3 1 (.tmp 110) (.tmp 103)), none), (sT 1 111 109, none)]
def o63_47 : List AOper := [bC 112 .add 98 1, mT 98 112]
def c63_47 : ACode := .ops o63_47
def b63_35 : ACode := .post (.seq (.ops o63_37) (.seq (.cond (.tmp 99) (.skip) (.exit 1)) (.seq (.block 2 (.seq (.ops o63_45) (.draw [] 0 o63_46 []))) (.clear zl54 c63_47)))) zl54
def o63_49 : List AOper := [mC 4 (.bool true)]
def c63_48 : ACode := .seq (.ops o63_49) (.ret)
def c63_29 : ACode := .seq (.ops o63_30) (.seq (.seq (.ops o63_33) (.block 1 (.clear zl54 (.loop b63_35)))) (.clear zl55 c63_48))
def c63_0 : ACode := .seq (.ops o63_1) (.seq (.seq (.draw [] 0 o63_4 []) (.cond (.tmp 28) (.seq (.ops o63_7) (.ret)) (.skip))) (.seq (.draw [] 0 o63_11 []) (.seq (.block 0 (.seq (.draw [] 0 o63_15 []) (.cond (.tmp 39) (.seq (.ops o63_18) (.ret)) (.seq (.ops o63_21) (.cond (.tmp 54) (.seq (.ops o63_24) (.clear zl56 c63_25)) (.skip)))))) (.clear zl56 c63_29))))
def a63 : AFun := ⟨113, [.tmp 4], c63_0⟩
theorem ok63 : OkFun Tryz.prog 63 a63 := okm Tryz.func63 (by kernel_rfl)
def o66_1 : List AOper := [mC 2 (.int .i64 0)]
def o66_4 : List AOper := [mT 3 0, oN 4 (.eqNil 0 false (.tmp 3))]
def o66_7 : List AOper := [mC 2 (.int .i64 0)]
def o66_11 : List AOper := [mT 5 0, nC 6 5, fA 7 7 6, lI 8 7, mT 2 8]
def c66_0 : ACode := .seq (.ops o66_1) (.seq (.seq (.ops o66_4) (.cond (.tmp 4) (.seq (.ops o66_7) (.ret)) (.skip))) (.seq (.ops o66_11) (.ret)))
def a66 : AFun := ⟨9, [.tmp 2], c66_0⟩
theorem ok66 : OkFun Tryz.prog 66 a66 := okm Tryz.func66 (by kernel_rfl)
def o67_1 : List AOper := [mC 4 (.bool false)]
def o67_4 : List AOper := [mT 5 0, cl 6 false 84 [5] rB, un 7 6, mT 8 7, mG 9 1 8 false, oG 10 (.call false (.func 36) [.tmp 9] rI true) 8 false, bGC 11 .eql 10 0 8 false, pT 12 8 11]
def o67_7 : List AOper := [mC 4 (.bool false)]
def o67_11 : List AOper := [mT 13 0, nC 14 13, fA 15 2 14, oN 16 (.load false [.any] (.tmp 15)), mT 17 0, mT 18 1, oN 19 (.call false (.tmp 16) [.tmp 17, .tmp 18] [] false)]
def o67_13 : List AOper := [mC 4 (.bool true)]
def c67_0 : ACode := .seq (.ops o67_1) (.seq (.seq (.ops o67_4) (.cond (.tmp 12) (.seq (.ops o67_7) (.ret)) (.skip))) (.seq (.ops o67_11) (.seq (.ops o67_13) (.ret))))
def a67 : AFun := ⟨20, [.tmp 4], c67_0⟩
theorem ok67 : OkFun Tryz.prog 67 a67 := okm Tryz.func67 (by kernel_rfl)
def o68_1 : List AOper := [mC 2 (.bool false)]
def o68_3 : List AOper := [mT 3 0, oN 4 (.eqNil 0 true (.tmp 3)), mT 5 4, mG 6 0 5 true, oG 7 (.nilCheck (.tmp 6)) 5 true, fG 8 3 7 5 true, oG 9 (.load false [.bool] (.tmp 8)) 5 true, pF 10 5 9, mT 11 10, mG 12 0 11 true, oG 13 (.nilCheck (.tmp 12)) 11 true, fG 14 2 13 11 true, oG 15 (.load false [.any] (.tmp 14)) 11 true, oG 16 (.eqNil 2 false (.tmp 15)) 11 true, pF 17 11 16, mT 2 17]
def c68_0 : ACode := .seq (.ops o68_1) (.seq (.ops o68_3) (.ret))
def a68 : AFun := ⟨18, [.tmp 2], c68_0⟩
theorem ok68 : OkFun Tryz.prog 68 a68 := okm Tryz.func68 (by kernel_rfl)
def o69_1 : List AOper := [mC 2 (.int .i64 0), mC 3 (.int .i64 0), mC 4 (.bool false)]
def o69_4 : List AOper := [mT 5 0, cl 6 false 68 [5] rB, un 7 6]
def o69_7 : List AOper := [mC 2 (.int .i64 0), mC 3 (.int .i64 0), mC 4 (.bool false)]
def o69_11 : List (AOper × Option Nat) := [(mT 8 0, none), (nC 9 8, none), (fA 10 5 9, none), (lI 11 10, none), (mT 12 0, none), (nC 13 12, none), (fA 14 6 13, none), (lI 15 14, none), (mT 16 0, none), (nC 17 16, none), (fA 18 5 17, none), (lI 19 18, none), (mT 20 0, none), (nC 21 20, none), (fA 22 6 21, none), (lI 23 22, none), (b2 24 .lss 19 23, none), (mT 2 11, none), (mT 3 15, none), (mT 4 24, none)]
def c69_0 : ACode := .seq (.ops o69_1) (.seq (.seq (.ops o69_4) (.cond (.tmp 7) (.seq (.ops o69_7) (.ret)) (.skip))) (.seq (.draw [] 0 o69_11 []) (.ret)))
def a69 : AFun := ⟨25, [.tmp 2, .tmp 3, .tmp 4], c69_0⟩
theorem ok69 : OkFun Tryz.prog 69 a69 := okm Tryz.func69 (by kernel_rfl)
def o70_1 : List AOper := [mC 4 (.slice none 0 0)]
def o70_3 : List AOper := [mT 8 0, mT 9 1, oN 10 (.call false (.func 74) [.tmp 8, .tmp 9] [(false, [.slice]), (false, [.slice])] false), mT 7 10, xt 11 7 0, xt 12 7 1, mT 5 11, mT 6 12]
def o70_5 : List AOper := [mT 13 0, mT 14 6, nC 15 13, fA 16 3 15, sT 1 16 14]
def o70_7 : List AOper := [mT 17 5, mT 4 17]
def c70_0 : ACode := .seq (.ops o70_1) (.seq (.ops o70_3) (.seq (.ops o70_5) (.seq (.ops o70_7) (.ret))))
def a70 : AFun := ⟨18, [.tmp 4], c70_0⟩
theorem ok70 : OkFun Tryz.prog 70 a70 := okm Tryz.func70 (by kernel_rfl)
def o71_1 : List AOper := [bx 3 0, oN 6 (.alloc [.int .i64 0, .slice none 0 0, .int .i64 0, .bool false, .int .u64 0, .int .i64 0]), mC 7 (.bool false)]
def o71_4 : List AOper := [l2 10 3, cl 11 true 4 [10] rB, un 12 11, mT 13 12, mG 14 1 13 false, bGC 15 .lss 14 0 13 false, pT 16 13 15, mT 17 16, mG 18 1 17 false, fG 19 1 3 17 false, lG 20 19 17 false, bH2 21 .geq 18 20 17 false, pT 22 17 21, mT 23 22, mG 24 2 23 false, oG 25 (.len (.tmp 24)) 23 false, bGC 26 .gtr 25 4096 23 false, pT 27 23 26]
def o71_7 : List AOper := [oN 28 (.build [.int .i64 0, .slice none 0 0, .int .i64 0, .bool false, .int .u64 0, .int .i64 0] []), sT 6 6 28, mC 7 (.bool false)]
def o71_12 : List AOper := [mC 8 (.int .i64 0)]
def o71_17 : List AOper := [mT 29 8, mT 30 2, ln 31 30, b2 32 .lss 29 31]
def o71_24 : List (AOper × Option Nat) := [(mT 35 2, none), (mT 36 8, none), (iA 37 4 35 36, none), (fA 38 0 37, none), (lI 39 38, none), (bC 40 .lss 39 0, none), (mT 41 40, none), (mG 42 2 41 false, none), (mG 43 8 41 false, none), (⟨some 44, .indexAddr 4 (.tmp 42) (.tmp 43), some (41, false)⟩, none), (fG 45 0 44 41 false, none), (lG 46 45 41 false, none), (fG 47 0 3 41 false, none), (lG 48 47 41 false, none), (bH2 49 .geq 46 48 41 false, none), (pT 50 41 49, none), (mT 51 50, none), (mG 52 2 51 false, none), (mG 53 8 51 false, none), (⟨some 54, .indexAddr 4 (.tmp 52) (.tmp 53), some (51, false)⟩, none), (fG 55 0 54 51 false, none), (lG 56 55 51 false, none), (fG 57 1 3 51 false, none), (lG 58 57 51 false, none), (bH2 59 .rem 56 58 51 false, none), (mG 60 1 51 false, none), (bH2 61 .neq 59 60 51 false, none), (pT 62 51 61, none)]
def o71_27 : List AOper := [oN 63 (.build [.int .i64 0, .slice none 0 0, .int .i64 0, .bool false, .int .u64 0, .int .i64 0] []), sT 6 6 63, mC 7 (.bool false)]
def o71_30 : List AOper := [mT 33 8, bC 34 .add 33 1, mT 8 34]
def c71_30 : ACode := .ops o71_30
def b71_14 : ACode := .post (.seq (.seq (.ops o71_17) (.cond (.tmp 32) (.skip) (.exit 0))) (.seq (.block 1 (.seq (.draw [] 0 o71_24 []) (.cond (.tmp 62) (.seq (.ops o71_27) (.ret)) (.skip)))) (.clear zl57 c71_30))) zl57
def o71_32 : List AOper := [l2 64 3, mT 65 1, mT 66 2, cl 67 false 85 [64, 65, 66] rS, mT 9 67]
def o71_34 : List AOper := [l2 68 3, cl 69 true 8 [68] rI, mT 70 9, mT 71 9, ln 72 71, oN 73 (.build [.int .i64 0, .slice none 0 0, .int .i64 0, .bool false, .int .u64 0, .int .i64 0] [(0, 1, .tmp 69), (1, 1, .tmp 70), (2, 1, .tmp 72)]), sT 6 6 73, mC 7 (.bool true)]
def c71_31 : ACode := .seq (.ops o71_32) (.seq (.ops o71_34) (.ret))
def c71_0 : ACode := .seq (.ops o71_1) (.seq (.seq (.ops o71_4) (.cond (.tmp 27) (.seq (.ops o71_7) (.ret)) (.skip))) (.seq (.seq (.ops o71_12) (.block 0 (.clear zl57 (.loop b71_14)))) (.clear zl58 c71_31)))
def a71 : AFun := ⟨74, [.cell true [.int .i64, .slice, .int .i64, .bool, .int .u64, .int .i64] 6, .tmp 7], c71_0⟩
theorem ok71 : OkFun Tryz.prog 71 a71 := okm Tryz.func71 (by kernel_rfl)
def o72_1 : List AOper := [mC 4 (.bool false)]
def o72_4 : List (AOper × Option Nat) := [(mT 8 0, none), (nC 9 8, none), (fA 10 1 9, none), (lS 11 10, none), (ln 12 11, none), (bC 13 .eql 12 0, none), (mT 14 13, none), (mG 15 1 14 false, none), (⟨some 16, .nilCheck (.tmp 15), some (14, false)⟩, none), (fG 17 0 16 14 false, none), (⟨some 18, .load false [.slice] (.tmp 17), some (14, false)⟩, none), (⟨some 19, .len (.tmp 18), some (14, false)⟩, none), (mG 20 0 14 false, none), (⟨some 21, .nilCheck (.tmp 20), some (14, false)⟩, none), (fG 22 0 21 14 false, none), (lG 23 22 14 false, none), (bH2 24 .neq 19 23 14 false, none), (pT 25 14 24, none)]
def o72_7 : List AOper := [mC 4 (.bool false)]
def o72_11 : List AOper := [mT 26 0, nC 27 26, fA 28 1 27, lS 29 28, oN 30 (.indexAddr 2 (.tmp 29) (.const (.int .i64 0))), oN 31 (.load true [.int .i64, .int .u64] (.tmp 30)), oN 5 (.alloc [.int .i64 0, .int .u64 0]), sT 2 5 31]
def o72_14 : List AOper := [mT 32 0, nC 33 32, fA 34 3 33, oN 35 (.load false [.bool] (.tmp 34)), un 36 35]
def o72_17 : List AOper := [mT 38 1, fA 39 0 5, lI 40 39, oN 41 (.call false (.func 75) [.tmp 38, .tmp 40] [(false, [.int .u64]), (false, [.bool])] false), mT 37 41, xt 42 37 0, xt 43 37 1, mT 6 42, mT 7 43]
def o72_19 : List AOper := [mT 44 0, mT 45 6, nC 46 44, fA 47 4 46, sT 1 47 45]
def o72_21 : List AOper := [mT 48 0, mT 49 7, nC 50 48, fA 51 3 50, sT 1 51 49]
def o72_23 : List AOper := [mC 4 (.bool true)]
def o72_27 : List AOper := [mT 52 0, nC 53 52, fA 54 3 53, oZ (.store 1 (.tmp 54) (.const (.bool false)))]
def o72_30 : List (AOper × Option Nat) := [(mT 55 1, none), (fA 56 0 5, none), (lI 57 56, none), (mT 58 0, none), (nC 59 58, none), (fA 60 4 59, none), (oN 61 (.load false [.int .u64] (.tmp 60)), none), (mT 62 0, none), (nC 63 62, none), (fA 64 4 63, none), (oN 65 (.load false [.int .u64] (.tmp 64)), none), (fA 66 1 5, none), (oN 67 (.load false [.int .u64] (.tmp 66)), none), (b2 68 .add 65 67, none), (cl 69 false 76 [55, 57, 61, 68] rB, none)]
def o72_32 : List AOper := [mT 70 0, mT 71 0, nC 72 71, fA 73 1 72, lS 74 73, oN 75 (.slice 2 (.tmp 74) (some (.const (.int .i64 1))) none), nC 76 70, fA 77 1 76, sT 1 77 75]
def o72_33 : List AOper := [mT 78 0, nC 79 78, fA 80 5 79, lI 81 80, bC 82 .add 81 1, nC 83 78, fA 84 5 83, sT 1 84 82]
def c72_31 : ACode := .cond (.tmp 69) (.ops o72_32) (.ops o72_33)
def o72_35 : List AOper := [mC 4 (.bool true)]
def c72_34 : ACode := .seq (.ops o72_35) (.ret)
def c72_0 : ACode := .seq (.ops o72_1) (.seq (.seq (.draw [] 0 o72_4 []) (.cond (.tmp 25) (.seq (.ops o72_7) (.ret)) (.skip))) (.seq (.ops o72_11) (.seq (.seq (.ops o72_14) (.cond (.tmp 36) (.seq (.ops o72_17) (.seq (.ops o72_19) (.seq (.ops o72_21) (.seq (.ops o72_23) (.ret))))) (.skip))) (.seq (.ops o72_27) (.seq (.seq (.draw [] 0 o72_30 []) (.clear zl59 c72_31)) (.clear zl60 c72_34))))))
def a72 : AFun := ⟨85, [.tmp 4], c72_0⟩
theorem ok72 : OkFun Tryz.prog 72 a72 := okm Tryz.func72 (by kernel_rfl)
def o73_1 : List AOper := [mC 4 (.int .i64 0)]
def o73_4 : List AOper := [mC 5 (.int .i64 0)]
def o73_9 : List AOper := [mT 6 5, mT 7 0, nC 8 7, fA 9 3 8, lS 10 9, ln 11 10, b2 12 .lss 6 11]
def o73_16 : List AOper := [mT 15 0, nC 16 15, fA 17 3 16, lS 18 17, mT 19 5, iA 20 4 18 19, fA 21 0 20, lI 22 21, mT 23 1, b2 24 .eql 22 23]
def o73_19 : List AOper := [mT 25 5, mT 4 25]
def o73_22 : List AOper := [mT 13 5, bC 14 .add 13 1, mT 5 14]
def c73_22 : ACode := .ops o73_22
def b73_6 : ACode := .post (.seq (.seq (.ops o73_9) (.cond (.tmp 12) (.skip) (.exit 0))) (.seq (.block 1 (.seq (.ops o73_16) (.cond (.tmp 24) (.seq (.ops o73_19) (.ret)) (.skip)))) (.clear zl29 c73_22))) zl29
def o73_24 : List AOper := [mC 4 (.int .i64 (-1))]
def c73_23 : ACode := .seq (.ops o73_24) (.ret)
def c73_0 : ACode := .seq (.ops o73_1) (.seq (.seq (.ops o73_4) (.block 0 (.clear zl29 (.loop b73_6)))) (.clear zl30 c73_23))
def a73 : AFun := ⟨26, [.tmp 4], c73_0⟩
theorem ok73 : OkFun Tryz.prog 73 a73 := okm Tryz.func73 (by kernel_rfl)
def o74_1 : List AOper := [mC 4 (.slice none 0 0), mC 5 (.slice none 0 0)]
def o74_3 : List AOper := [mC 6 (.slice none 0 0), mC 7 (.slice none 0 0)]
def o74_6 : List AOper := [mC 8 (.int .i64 0)]
def o74_11 : List AOper := [mT 9 8, mT 10 0, nC 11 10, fA 12 3 11, lS 13 12, ln 14 13, b2 15 .lss 9 14]
def o74_18 : List (AOper × Option Nat) := [(mT 18 0, none), (nC 19 18, none), (fA 20 3 19, none), (lS 21 20, none), (mT 22 8, none), (iA 23 4 21 22, none), (fA 24 0 23, none), (lI 25 24, none), (mT 26 0, none), (nC 27 26, none), (fA 28 0 27, none), (fA 29 1 28, none), (lI 30 29, none), (b2 31 .rem 25 30, none), (mT 32 1, none), (b2 33 .eql 31 32, none)]
def o74_20 : List AOper := [mT 34 6, mT 35 0, nC 36 35, fA 37 3 36, lS 38 37, mT 39 8, iA 40 4 38 39, oN 41 (.load true [.int .i64, .int .u64, .int .u64, .int .u64] (.tmp 40)), oN 42 (.buildSlice 4 1 [.int .i64 0, .int .u64 0, .int .u64 0, .int .u64 0] [(0, 4, .tmp 41)]), oN 43 (.append 4 32 (.tmp 34) (.tmp 42)), mT 6 43]
def o74_21 : List AOper := [mT 44 7, mT 45 0, nC 46 45, fA 47 3 46, lS 48 47, mT 49 8, iA 50 4 48 49, oN 51 (.load true [.int .i64, .int .u64, .int .u64, .int .u64] (.tmp 50)), oN 52 (.buildSlice 4 1 [.int .i64 0, .int .u64 0, .int .u64 0, .int .u64 0] [(0, 4, .tmp 51)]), oN 53 (.append 4 32 (.tmp 44) (.tmp 52)), mT 7 53]
def o74_22 : List AOper := [mT 16 8, bC 17 .add 16 1, mT 8 17]
def c74_22 : ACode := .ops o74_22
def b74_8 : ACode := .post (.seq (.seq (.ops o74_11) (.cond (.tmp 15) (.skip) (.exit 0))) (.seq (.block 1 (.seq (.draw [] 0 o74_18 []) (.cond (.tmp 33) (.ops o74_20) (.ops o74_21)))) (.clear zl61 c74_22))) zl61
def o74_24 : List AOper := [mT 54 6, mT 55 7, mT 4 54, mT 5 55]
def c74_23 : ACode := .seq (.ops o74_24) (.ret)
def c74_0 : ACode := .seq (.ops o74_1) (.seq (.ops o74_3) (.seq (.seq (.ops o74_6) (.block 0 (.clear zl61 (.loop b74_8)))) (.clear zl62 c74_23)))
def a74 : AFun := ⟨56, [.tmp 4, .tmp 5], c74_0⟩
theorem ok74 : OkFun Tryz.prog 74 a74 := okm Tryz.func74 (by kernel_rfl)
def o75_1 : List AOper := [mC 4 (.int .u64 0), mC 5 (.bool false)]
def o75_3 : List AOper := [mT 6 0, nC 7 6, fA 8 1 7, lI 9 8, bC 10 .add 9 1, nC 11 6, fA 12 1 11, sT 1 12 10]
def o75_6 : List AOper := [mT 13 1, bC 14 .lss 13 0, mT 15 14, mG 16 1 15 false, mG 17 0 15 false, oG 18 (.nilCheck (.tmp 17)) 15 false, fG 19 0 18 15 false, oG 20 (.load false [.slice] (.tmp 19)) 15 false, oG 21 (.len (.tmp 20)) 15 false, bH2 22 .geq 16 21 15 false, pT 23 15 22]
def o75_9 : List AOper := [mC 4 (.int .u64 0), mC 5 (.bool false)]
def o75_13 : List AOper := [mT 24 0, nC 25 24, fA 26 0 25, lS 27 26, mT 28 1, iA 29 1 27 28, oN 30 (.load false [.int .u64] (.tmp 29)), mT 4 30, mC 5 (.bool true)]
def c75_0 : ACode := .seq (.ops o75_1) (.seq (.ops o75_3) (.seq (.seq (.ops o75_6) (.cond (.tmp 23) (.seq (.ops o75_9) (.ret)) (.skip))) (.seq (.ops o75_13) (.ret))))
def a75 : AFun := ⟨31, [.tmp 4, .tmp 5], c75_0⟩
theorem ok75 : OkFun Tryz.prog 75 a75 := okm Tryz.func75 (by kernel_rfl)
def o76_1 : List AOper := [mC 8 (.bool false)]
def o76_3 : List AOper := [mT 9 0, nC 10 9, fA 11 1 10, lI 12 11, bC 13 .add 12 1, nC 14 9, fA 15 1 14, sT 1 15 13]
def o76_6 : List AOper := [mT 16 1, bC 17 .lss 16 0, mT 18 17, mG 19 1 18 false, mG 20 0 18 false, oG 21 (.nilCheck (.tmp 20)) 18 false, fG 22 0 21 18 false, oG 23 (.load false [.slice] (.tmp 22)) 18 false, oG 24 (.len (.tmp 23)) 18 false, bH2 25 .geq 19 24 18 false, pT 26 18 25, mT 27 26, mG 28 0 27 false, oG 29 (.nilCheck (.tmp 28)) 27 false, fG 30 0 29 27 false, oG 31 (.load false [.slice] (.tmp 30)) 27 false, mG 32 1 27 false, oG 33 (.indexAddr 1 (.tmp 31) (.tmp 32)) 27 false, oG 34 (.load false [.int .u64] (.tmp 33)) 27 false, mG 35 2 27 false, bH2 36 .neq 34 35 27 false, pT 37 27 36]
def o76_9 : List AOper := [mC 8 (.bool false)]
def o76_13 : List AOper := [mT 38 0, nC 39 38, fA 40 0 39, lS 41 40, mT 42 1, mT 43 3, iA 44 1 41 42, sT 1 44 43]
def o76_15 : List AOper := [mT 45 0, nC 46 45, fA 47 2 46, lI 48 47, bC 49 .add 48 1, nC 50 45, fA 51 2 50, sT 1 51 49]
def o76_17 : List AOper := [mC 8 (.bool true)]
def c76_0 : ACode := .seq (.ops o76_1) (.seq (.ops o76_3) (.seq (.seq (.ops o76_6) (.cond (.tmp 37) (.seq (.ops o76_9) (.ret)) (.skip))) (.seq (.ops o76_13) (.seq (.ops o76_15) (.seq (.ops o76_17) (.ret))))))
def a76 : AFun := ⟨52, [.tmp 8], c76_0⟩
theorem ok76 : OkFun Tryz.prog 76 a76 := okm Tryz.func76 (by kernel_rfl)
def o77_1 : List AOper := [mT 6 0, nC 7 6, fA 8 4 7, oN 9 (.load false [.int .u64] (.tmp 8)), oN 10 (.conv .i64 (.tmp 9)), mT 4 10]
def o77_3 : List (AOper × Option Nat) := [(mT 11 4, none), (mT 12 0, none), (nC 13 12, none), (fA 14 1 13, none), (lI 15 14, none), (mT 16 0, none), (nC 17 16, none), (fA 18 0 17, none), (lI 19 18, none), (mT 20 4, none), (b2 21 .sub 19 20, none), (oN 22 (.minmax false [.tmp 15, .tmp 21]), none), (b2 23 .add 11 22, none), (mT 5 23, none)]
def o77_6 : List AOper := [mT 24 1, mT 25 0, nC 26 25, fA 27 4 26, oN 28 (.load false [.int .u64] (.tmp 27)), mT 29 5, oN 30 (.conv .u64 (.tmp 29)), oN 31 (.call false (.func 79) [.tmp 24, .const (.int .i64 0), .tmp 28, .tmp 30] rB true), un 32 31]
def o77_9 : List AOper := [mT 33 0, nC 34 33, fA 35 7 34, lI 36 35, bC 37 .add 36 1, nC 38 33, fA 39 7 38, sT 1 39 37]
def o77_11 : List AOper := [mT 40 0, nC 41 40, fA 42 2 41, oZ (.store 1 (.tmp 42) (.func 52))]
def o77_14 : List AOper := [mT 43 0, mT 44 0, mT 45 0, mT 46 4, mT 47 5, nC 48 43, fA 49 5 48, sT 1 49 46, nC 50 44, fA 51 6 50, sT 1 51 47, nC 52 45, fA 53 2 52, oZ (.store 1 (.tmp 53) (.const (.nilFunc)))]
def c77_0 : ACode := .seq (.ops o77_1) (.seq (.draw [] 0 o77_3 []) (.seq (.seq (.ops o77_6) (.cond (.tmp 32) (.seq (.ops o77_9) (.seq (.ops o77_11) (.ret))) (.skip))) (.ops o77_14)))
def a77 : AFun := ⟨54, [], c77_0⟩
theorem ok77 : OkFun Tryz.prog 77 a77 := okm Tryz.func77 (by kernel_rfl)
def o78_1 : List AOper := [mC 2 (.int .i64 0)]
def o78_4 : List AOper := [mT 3 0, oN 4 (.eqNil 0 false (.tmp 3))]
def o78_7 : List AOper := [mC 2 (.int .i64 0)]
def o78_11 : List (AOper × Option Nat) := [(mT 5 0, none), (nC 6 5, none), (fA 7 1 6, none), (lS 8 7, none), (ln 9 8, none), (mT 10 0, none), (nC 11 10, none), (fA 12 2 11, none), (lI 13 12, none), (b2 14 .sub 9 13, none), (mT 2 14, none)]
def c78_0 : ACode := .seq (.ops o78_1) (.seq (.seq (.ops o78_4) (.cond (.tmp 4) (.seq (.ops o78_7) (.ret)) (.skip))) (.seq (.draw [] 0 o78_11 []) (.ret)))
def a78 : AFun := ⟨15, [.tmp 2], c78_0⟩
theorem ok78 : OkFun Tryz.prog 78 a78 := okm Tryz.func78 (by kernel_rfl)
def o79_1 : List AOper := [mC 8 (.bool false)]
def o79_3 : List AOper := [mT 10 0, mT 11 1, cl 12 false 50 [10, 11] rP, mT 9 12]
def o79_6 : List AOper := [mT 13 9, oN 14 (.eqNil 0 false (.tmp 13)), mT 15 14, mG 16 9 15 false, oG 17 (.nilCheck (.tmp 16)) 15 false, oG 18 (.load false [.int .u64] (.tmp 17)) 15 false, mG 19 2 15 false, bH2 20 .neq 18 19 15 false, pT 21 15 20]
def o79_9 : List AOper := [mC 8 (.bool false)]
def o79_13 : List AOper := [mT 22 9, mT 23 3, nC 24 22, sT 1 24 23]
def o79_15 : List AOper := [mT 25 0, nC 26 25, fA 27 3 26, lI 28 27, bC 29 .add 28 1, nC 30 25, fA 31 3 30, sT 1 31 29]
def o79_17 : List AOper := [mC 8 (.bool true)]
def c79_0 : ACode := .seq (.ops o79_1) (.seq (.ops o79_3) (.seq (.seq (.ops o79_6) (.cond (.tmp 21) (.seq (.ops o79_9) (.ret)) (.skip))) (.seq (.ops o79_13) (.seq (.ops o79_15) (.seq (.ops o79_17) (.ret))))))
def a79 : AFun := ⟨32, [.tmp 8], c79_0⟩
theorem ok79 : OkFun Tryz.prog 79 a79 := okm Tryz.func79 (by kernel_rfl)
def o80_1 : List AOper := [bx 2 0, mC 4 (.int .i64 0)]
def o80_3 : List AOper := [l2 5 2, mT 6 1, fA 7 1 2, lI 8 7, oN 9 (.call true (.func 51) [.tmp 5, .const (.int .i64 2), .tmp 6, .tmp 8] rI true), mT 4 9]
def c80_0 : ACode := .seq (.ops o80_1) (.seq (.ops o80_3) (.ret))
def a80 : AFun := ⟨10, [.tmp 4], c80_0⟩
theorem ok80 : OkFun Tryz.prog 80 a80 := okm Tryz.func80 (by kernel_rfl)
def o81_1 : List AOper := [bx 3 0, bx 4 1, bx 5 2, mC 6 (.nilFunc)]
def o81_3 : List AOper := [oN 7 (.makeFunc (.func 86) [] [.tmp 3, .tmp 4, .tmp 5]), mT 6 7]
def c81_0 : ACode := .seq (.ops o81_1) (.seq (.ops o81_3) (.ret))
def a81 : AFun := ⟨8, [.tmp 6], c81_0⟩
theorem ok81 : OkFun Tryz.prog 81 a81 := okm Tryz.func81 (by kernel_rfl)
def o84_1 : List AOper := [mC 2 (.bool false)]
def o84_3 : List AOper := [mT 3 0, oN 4 (.eqNil 0 true (.tmp 3)), mT 5 4, mG 6 0 5 true, oG 7 (.nilCheck (.tmp 6)) 5 true, fG 8 2 7 5 true, oG 9 (.load false [.any] (.tmp 8)) 5 true, oG 10 (.eqNil 2 true (.tmp 9)) 5 true, pF 11 5 10, mT 2 11]
def c84_0 : ACode := .seq (.ops o84_1) (.seq (.ops o84_3) (.ret))
def a84 : AFun := ⟨12, [.tmp 2], c84_0⟩
theorem ok84 : OkFun Tryz.prog 84 a84 := okm Tryz.func84 (by kernel_rfl)
def o85_1 : List AOper := [bx 3 0, mC 6 (.slice none 0 0)]
def o85_3 : List AOper := [l2 10 3, mT 11 1, oN 12 (.build [.int .i64 0, .int .i64 0, .int .i64 0] [(0, 1, .const (.int .i64 2)), (1, 1, .tmp 11)]), cl 13 true 99 [10, 12] rI, oN 14 (.build [.int .i64 0, .int .u64 0] [(0, 1, .tmp 13), (1, 1, .const (.int .u64 1))]), oN 15 (.buildSlice 2 1 [.int .i64 0, .int .u64 0] [(0, 2, .tmp 14)]), mT 7 15]
def o85_6 : List AOper := [mC 8 (.int .i64 0)]
def o85_11 : List AOper := [mT 16 8, mT 17 2, ln 18 17, b2 19 .lss 16 18]
def o85_18 : List AOper := [mC 9 (.int .i64 0)]
def o85_23 : List AOper := [mT 22 9, bC 23 .lss 22 3]
def o85_30 : List AOper := [mT 26 2, mT 27 8, mT 28 9, iA 29 4 26 27, fA 30 1 29, oN 31 (.indexArr 3 1 (.tmp 30) (.tmp 28)), oN 32 (.load false [.int .u64] (.tmp 31)), oN 33 (.bin .neq (.tmp 32) (.const (.int .u64 0)))]
def o85_32 : List (AOper × Option Nat) := [(mT 34 7, none), (l2 35 3, none), (mT 36 2, none), (mT 37 8, none), (iA 38 4 36 37, none), (fA 39 0 38, none), (lI 40 39, none), (mT 41 9, none), (oN 42 (.build [.int .i64 0, .int .i64 0, .int .i64 0] [(0, 1, .const (.int .i64 4)), (1, 1, .tmp 40), (2, 1, .tmp 41)]), none), (cl 43 true 99 [35, 42] rI, none), (mT 44 2, none), (mT 45 8, none), (mT 46 9, none), (iA 47 4 44 45, none), (fA 48 1 47, none), (oN 49 (.indexArr 3 1 (.tmp 48) (.tmp 46)), none), (oN 50 (.load false [.int .u64] (.tmp 49)), none), (oN 51 (.build [.int .i64 0, .int .u64 0] [(0, 1, .tmp 43), (1, 1, .tmp 50)]), none), (oN 52 (.buildSlice 2 1 [.int .i64 0, .int .u64 0] [(0, 2, .tmp 51)]), none), (oN 53 (.append 2 16 (.tmp 34) (.tmp 52)), none), (mT 7 53, none)]
def o85_34 : List AOper := [mT 24 9, bC 25 .add 24 1, mT 9 25]
def c85_34 : ACode := .ops o85_34
def b85_20 : ACode := .post (.seq (.seq (.ops o85_23) (.cond (.tmp 23) (.skip) (.exit 2))) (.seq (.block 3 (.seq (.ops o85_30) (.cond (.tmp 33) (.draw [] 0 o85_32 []) (.skip)))) (.clear zl63 c85_34))) zl63
def o85_35 : List AOper := [mT 20 8, bC 21 .add 20 1, mT 8 21]
def c85_35 : ACode := .ops o85_35
def b85_8 : ACode := .post (.seq (.seq (.ops o85_11) (.cond (.tmp 19) (.skip) (.exit 0))) (.seq (.block 1 (.seq (.ops o85_18) (.block 2 (.clear zl63 (.loop b85_20))))) (.clear zl64 c85_35))) zl64
def o85_37 : List AOper := [mT 54 7, l2 55 3, mT 56 1, oN 57 (.build [.int .i64 0, .int .i64 0, .int .i64 0] [(0, 1, .const (.int .i64 3)), (1, 1, .tmp 56)]), cl 58 true 99 [55, 57] rI, oN 59 (.build [.int .i64 0, .int .u64 0] [(0, 1, .tmp 58), (1, 1, .const (.int .u64 1))]), oN 60 (.buildSlice 2 1 [.int .i64 0, .int .u64 0] [(0, 2, .tmp 59)]), oN 61 (.append 2 16 (.tmp 54) (.tmp 60)), mT 6 61]
def c85_36 : ACode := .seq (.ops o85_37) (.ret)
def c85_0 : ACode := .seq (.ops o85_1) (.seq (.ops o85_3) (.seq (.seq (.ops o85_6) (.block 0 (.clear zl64 (.loop b85_8)))) (.clear zl65 c85_36)))
def a85 : AFun := ⟨62, [.tmp 6], c85_0⟩
theorem ok85 : OkFun Tryz.prog 85 a85 := okm Tryz.func85 (by kernel_rfl)
def o86_2 : List AOper := [mT 9 0, l2 10 1, lI 11 2, cl 12 true 80 [10, 11] rI, oN 13 (.build [.int .i64 0, .int .u64 0] [(0, 1, .tmp 12), (1, 1, .const (.int .u64 1))]), oN 14 (.call false (.tmp 9) [.tmp 13] rB true), un 15 14]
def o86_8 : List AOper := [lS 16 3, ln 17 16, mC 18 (.int .i64 0)]
def o86_12 : List AOper := [b2 19 .lss 18 17]
def o86_20 : List AOper := [iA 20 4 16 18, oN 21 (.load true [.int .i64, .int .u64, .int .u64, .int .u64] (.tmp 20)), oN 6 (.alloc [.int .i64 0, .int .u64 0, .int .u64 0, .int .u64 0]), sT 4 6 21]
def o86_22 : List AOper := [fA 22 1 6, oN 23 (.load true [.int .u64, .int .u64, .int .u64] (.tmp 22)), mC 24 (.int .i64 0)]
def o86_26 : List AOper := [bC 25 .lss 24 3]
def o86_34 : List AOper := [mT 26 24, oN 27 (.index false 3 1 (.tmp 23) (.tmp 24)), mT 7 26, mT 8 27]
def o86_36 : List AOper := [mT 28 8, oN 29 (.bin .neq (.tmp 28) (.const (.int .u64 0))), mT 30 29, mG 31 0 30 true, oG 32 (.load true [.int .i64, .int .i64] (.tmp 1)) 30 true, fG 33 0 6 30 true, lG 34 33 30 true, mG 35 7 30 true, oG 36 (.call true (.func 26) [.tmp 32, .tmp 34, .tmp 35] rI true) 30 true, mG 37 8 30 true, oG 38 (.build [.int .i64 0, .int .u64 0] [(0, 1, .tmp 36), (1, 1, .tmp 37)]) 30 true, oG 39 (.call false (.tmp 31) [.tmp 38] rB true) 30 true, oG 40 (.un .not (.tmp 39)) 30 true, pF 41 30 40]
def o86_40 : List AOper := [bC 42 .add 24 1, mT 24 42]
def c86_40 : ACode := .ops o86_40
def b86_24 : ACode := .post (.seq (.ops o86_26) (.seq (.cond (.tmp 25) (.skip) (.exit 2)) (.seq (.block 3 (.seq (.ops o86_34) (.seq (.ops o86_36) (.cond (.tmp 41) (.ret) (.skip))))) (.clear zl66 c86_40)))) zl66
def o86_41 : List AOper := [bC 43 .add 18 1, mT 18 43]
def c86_41 : ACode := .ops o86_41
def b86_10 : ACode := .post (.seq (.ops o86_12) (.seq (.cond (.tmp 19) (.skip) (.exit 0)) (.seq (.block 1 (.seq (.ops o86_20) (.seq (.ops o86_22) (.block 2 (.clear zl66 (.loop b86_24)))))) (.clear zl67 c86_41)))) zl67
def o86_42 : List AOper := [mT 44 0, l2 45 1, lI 46 2, cl 47 true 87 [45, 46] rI, oN 48 (.build [.int .i64 0, .int .u64 0] [(0, 1, .tmp 47), (1, 1, .const (.int .u64 1))]), oN 49 (.call false (.tmp 44) [.tmp 48] rB true)]
def c86_42 : ACode := .ops o86_42
def c86_0 : ACode := .seq (.seq (.ops o86_2) (.cond (.tmp 15) (.ret) (.skip))) (.seq (.seq (.ops o86_8) (.block 0 (.clear zl67 (.loop b86_10)))) (.clear zl68 c86_42))
def a86 : AFun := ⟨50, [], c86_0⟩
theorem ok86 : OkFun Tryz.prog 86 a86 := okm Tryz.func86 (by kernel_rfl)
def o87_1 : List AOper := [bx 2 0, mC 4 (.int .i64 0)]
def o87_3 : List AOper := [l2 5 2, mT 6 1, fA 7 1 2, lI 8 7, oN 9 (.call true (.func 51) [.tmp 5, .const (.int .i64 3), .tmp 6, .tmp 8] rI true), mT 4 9]
def c87_0 : ACode := .seq (.ops o87_1) (.seq (.ops o87_3) (.ret))
def a87 : AFun := ⟨10, [.tmp 4], c87_0⟩
theorem ok87 : OkFun Tryz.prog 87 a87 := okm Tryz.func87 (by kernel_rfl)
def o99_1 : List AOper := [bx 2 0, bx 3 1, mC 4 (.int .i64 0)]
def o99_4 : List AOper := [fA 5 0 3, lI 6 5, bC 7 .eql 6 2]
def o99_7 : List AOper := [fA 8 1 3, lI 9 8, oN 10 (.bin .add (.const (.int .i64 1)) (.tmp 9)), mT 4 10]
def o99_12 : List AOper := [fA 11 0 3, lI 12 11, bC 13 .eql 12 3]
def o99_15 : List AOper := [fA 14 1 2, lI 15 14, oN 16 (.bin .add (.const (.int .i64 1)) (.tmp 15)), fA 17 1 3, lI 18 17, b2 19 .add 16 18, mT 4 19]
def o99_19 : List AOper := [fA 20 1 2, lI 21 20, oN 22 (.bin .mul (.const (.int .i64 2)) (.tmp 21)), oN 23 (.bin .add (.const (.int .i64 1)) (.tmp 22)), fA 24 1 3, lI 25 24, oN 26 (.bin .mul (.const (.int .i64 3)) (.tmp 25)), b2 27 .add 23 26, fA 28 2 3, lI 29 28, b2 30 .add 27 29, mT 4 30]
def c99_0 : ACode := .seq (.ops o99_1) (.seq (.seq (.ops o99_4) (.cond (.tmp 7) (.seq (.ops o99_7) (.ret)) (.skip))) (.seq (.seq (.ops o99_12) (.cond (.tmp 13) (.seq (.ops o99_15) (.ret)) (.skip))) (.seq (.ops o99_19) (.ret))))
def a99 : AFun := ⟨31, [.tmp 4], c99_0⟩
theorem ok99 : OkFun Tryz.prog 99 a99 := okm Tryz.func99 (by kernel_rfl)
def envL : List (Nat × AFun) := [(3, a3), (4, a4), (5, a5), (6, a6), (7, a7), (8, a8), (9, a9), (10, a10), (11, a11), (12, a12), (13, a13), (14, a14), (15, a15), (16, a16), (17, a17), (18, a18), (19, a19), (20, a20), (21, a21), (22, a22), (23, a23), (24, a24), (25, a25), (26, a26), (27, a27), (28, a28), (29, a29), (30, a30), (31, a31), (32, a32), (33, a33), (34, a34), (35, a35), (36, a36), (37, a37), (38, a38), (39, a39), (40, a40), (41, a41), (42, a42), (43, a43), (44, a44), (45, a45), (46, a46), (47, a47), (48, a48), (49, a49), (50, a50), (51, a51), (52, a52), (53, a53), (54, a54), (55, a55), (56, a56), (57, a57), (58, a58), (59, a59), (60, a60), (61, a61), (62, a62), (63, a63), (66, a66), (67, a67), (68, a68), (69, a69), (70, a70), (71, a71), (72, a72), (73, a73), (74, a74), (75, a75), (76, a76), (77, a77), (78, a78), (79, a79), (80, a80), (81, a81), (84, a84), (85, a85), (86, a86), (87, a87), (99, a99)]
def extL : List (Nat × (List Value → AMem → Res)) := [(64, sortH), (65, compactH)]
def env : Env := ⟨fun g => envL.lookup g, fun g => extL.lookup g⟩
theorem LL_ex : ∃ L : Rec, L = lim env := ⟨_, rfl⟩
noncomputable def LL : Rec := Classical.choose LL_ex
theorem LL_lim : LL = lim env := Classical.choose_spec LL_ex
theorem L_loop (b : ACode) (K : KT) (t : List Value) (A : AMem) : LL.loop b K t A = code LL b (loopK LL b K) t A := by rw [LL_lim]; exact lim_loop env b K t A
theorem L_round (l : Nat) (args : List Value) (A : AMem) : LL.round l args A = roundF LL l args A := by rw [LL_lim]; exact lim_round env l args A
theorem L_fn {f : FuncId} {a : AFun} (hx : extL.lookup f = none) (h : envL.lookup f = some a) (args : List Value) (A : AMem) : LL.call f args A = enterF LL a args A := by rw [LL_lim]; exact lim_call hx h args A
theorem L_call64 (args : List Value) (A : AMem) : LL.call 64 args A = sortH args A := by rw [LL_lim]; exact lim_ext (E := env) rfl args A
theorem L_call65 (args : List Value) (A : AMem) : LL.call 65 args A = compactH args A := by rw [LL_lim]; exact lim_ext (E := env) rfl args A
abbrev L_call3 := @L_fn 3 a3 (by kernel_rfl) (by kernel_rfl)
abbrev L_call4 := @L_fn 4 a4 (by kernel_rfl) (by kernel_rfl)
abbrev L_call5 := @L_fn 5 a5 (by kernel_rfl) (by kernel_rfl)
abbrev L_call7 := @L_fn 7 a7 (by kernel_rfl) (by kernel_rfl)
abbrev L_call8 := @L_fn 8 a8 (by kernel_rfl) (by kernel_rfl)
abbrev L_call9 := @L_fn 9 a9 (by kernel_rfl) (by kernel_rfl)
abbrev L_call10 := @L_fn 10 a10 (by kernel_rfl) (by kernel_rfl)
abbrev L_call11 := @L_fn 11 a11 (by kernel_rfl) (by kernel_rfl)
abbrev L_call12 := @L_fn 12 a12 (by kernel_rfl) (by kernel_rfl)
abbrev L_call13 := @L_fn 13 a13 (by kernel_rfl) (by kernel_rfl)
abbrev L_call14 := @L_fn 14 a14 (by kernel_rfl) (by kernel_rfl)
abbrev L_call15 := @L_fn 15 a15 (by kernel_rfl) (by kernel_rfl)
abbrev L_call16 := @L_fn 16 a16 (by kernel_rfl) (by kernel_rfl)
abbrev L_call17 := @L_fn 17 a17 (by kernel_rfl) (by kernel_rfl)
abbrev L_call18 := @L_fn 18 a18 (by kernel_rfl) (by kernel_rfl)
abbrev L_call19 := @L_fn 19 a19 (by kernel_rfl) (by kernel_rfl)
abbrev L_call20 := @L_fn 20 a20 (by kernel_rfl) (by kernel_rfl)
abbrev L_call21 := @L_fn 21 a21 (by kernel_rfl) (by kernel_rfl)
abbrev L_call22 := @L_fn 22 a22 (by kernel_rfl) (by kernel_rfl)
abbrev L_call23 := @L_fn 23 a23 (by kernel_rfl) (by kernel_rfl)
abbrev L_call24 := @L_fn 24 a24 (by kernel_rfl) (by kernel_rfl)
abbrev L_call25 := @L_fn 25 a25 (by kernel_rfl) (by kernel_rfl)
abbrev L_call26 := @L_fn 26 a26 (by kernel_rfl) (by kernel_rfl)
abbrev L_call27 := @L_fn 27 a27 (by kernel_rfl) (by kernel_rfl)
abbrev L_call28 := @L_fn 28 a28 (by kernel_rfl) (by kernel_rfl)
abbrev L_call29 := @L_fn 29 a29 (by kernel_rfl) (by kernel_rfl)
abbrev L_call30 := @L_fn 30 a30 (by kernel_rfl) (by kernel_rfl)
abbrev L_call31 := @L_fn 31 a31 (by kernel_rfl) (by kernel_rfl)
abbrev L_call32 := @L_fn 32 a32 (by kernel_rfl) (by kernel_rfl)
abbrev L_call33 := @L_fn 33 a33 (by kernel_rfl) (by kernel_rfl)
abbrev L_call34 := @L_fn 34 a34 (by kernel_rfl) (by kernel_rfl)
abbrev L_call35 := @L_fn 35 a35 (by kernel_rfl) (by kernel_rfl)
abbrev L_call36 := @L_fn 36 a36 (by kernel_rfl) (by kernel_rfl)
abbrev L_call37 := @L_fn 37 a37 (by kernel_rfl) (by kernel_rfl)
abbrev L_call38 := @L_fn 38 a38 (by kernel_rfl) (by kernel_rfl)
abbrev L_call39 := @L_fn 39 a39 (by kernel_rfl) (by kernel_rfl)
abbrev L_call40 := @L_fn 40 a40 (by kernel_rfl) (by kernel_rfl)
abbrev L_call41 := @L_fn 41 a41 (by kernel_rfl) (by kernel_rfl)
abbrev L_call42 := @L_fn 42 a42 (by kernel_rfl) (by kernel_rfl)
abbrev L_call43 := @L_fn 43 a43 (by kernel_rfl) (by kernel_rfl)
abbrev L_call44 := @L_fn 44 a44 (by kernel_rfl) (by kernel_rfl)
abbrev L_call45 := @L_fn 45 a45 (by kernel_rfl) (by kernel_rfl)
abbrev L_call46 := @L_fn 46 a46 (by kernel_rfl) (by kernel_rfl)
abbrev L_call47 := @L_fn 47 a47 (by kernel_rfl) (by kernel_rfl)
abbrev L_call48 := @L_fn 48 a48 (by kernel_rfl) (by kernel_rfl)
abbrev L_call49 := @L_fn 49 a49 (by kernel_rfl) (by kernel_rfl)
abbrev L_call50 := @L_fn 50 a50 (by kernel_rfl) (by kernel_rfl)
abbrev L_call51 := @L_fn 51 a51 (by kernel_rfl) (by kernel_rfl)
abbrev L_call52 := @L_fn 52 a52 (by kernel_rfl) (by kernel_rfl)
abbrev L_call53 := @L_fn 53 a53 (by kernel_rfl) (by kernel_rfl)
abbrev L_call54 := @L_fn 54 a54 (by kernel_rfl) (by kernel_rfl)
abbrev L_call55 := @L_fn 55 a55 (by kernel_rfl) (by kernel_rfl)
abbrev L_call56 := @L_fn 56 a56 (by kernel_rfl) (by kernel_rfl)
abbrev L_call57 := @L_fn 57 a57 (by kernel_rfl) (by kernel_rfl)
abbrev L_call58 := @L_fn 58 a58 (by kernel_rfl) (by kernel_rfl)
abbrev L_call59 := @L_fn 59 a59 (by kernel_rfl) (by kernel_rfl)
abbrev L_call60 := @L_fn 60 a60 (by kernel_rfl) (by kernel_rfl)
abbrev L_call61 := @L_fn 61 a61 (by kernel_rfl) (by kernel_rfl)
abbrev L_call62 := @L_fn 62 a62 (by kernel_rfl) (by kernel_rfl)
abbrev L_call63 := @L_fn 63 a63 (by kernel_rfl) (by kernel_rfl)
abbrev L_call66 := @L_fn 66 a66 (by kernel_rfl) (by kernel_rfl)
abbrev L_call67 := @L_fn 67 a67 (by kernel_rfl) (by kernel_rfl)
abbrev L_call68 := @L_fn 68 a68 (by kernel_rfl) (by kernel_rfl)
abbrev L_call69 := @L_fn 69 a69 (by kernel_rfl) (by kernel_rfl)
abbrev L_call70 := @L_fn 70 a70 (by kernel_rfl) (by kernel_rfl)
abbrev L_call71 := @L_fn 71 a71 (by kernel_rfl) (by kernel_rfl)
abbrev L_call72 := @L_fn 72 a72 (by kernel_rfl) (by kernel_rfl)
abbrev L_call73 := @L_fn 73 a73 (by kernel_rfl) (by kernel_rfl)
abbrev L_call74 := @L_fn 74 a74 (by kernel_rfl) (by kernel_rfl)
abbrev L_call75 := @L_fn 75 a75 (by kernel_rfl) (by kernel_rfl)
abbrev L_call76 := @L_fn 76 a76 (by kernel_rfl) (by kernel_rfl)
abbrev L_call77 := @L_fn 77 a77 (by kernel_rfl) (by kernel_rfl)
abbrev L_call78 := @L_fn 78 a78 (by kernel_rfl) (by kernel_rfl)
abbrev L_call79 := @L_fn 79 a79 (by kernel_rfl) (by kernel_rfl)
abbrev L_call80 := @L_fn 80 a80 (by kernel_rfl) (by kernel_rfl)
abbrev L_call81 := @L_fn 81 a81 (by kernel_rfl) (by kernel_rfl)
abbrev L_call84 := @L_fn 84 a84 (by kernel_rfl) (by kernel_rfl)
abbrev L_call85 := @L_fn 85 a85 (by kernel_rfl) (by kernel_rfl)
abbrev L_call86 := @L_fn 86 a86 (by kernel_rfl) (by kernel_rfl)
abbrev L_call87 := @L_fn 87 a87 (by kernel_rfl) (by kernel_rfl)
abbrev L_call99 := @L_fn 99 a99 (by kernel_rfl) (by kernel_rfl)
theorem envAll : ∀ p ∈ envL, OkFun Tryz.prog p.1 p.2 := fmc.2 ⟨ok3, fmc.2 ⟨ok4, fmc.2 ⟨ok5, fmc.2 ⟨ok6, fmc.2 ⟨ok7, fmc.2 ⟨ok8, fmc.2 ⟨ok9, fmc.2 ⟨ok10, fmc.2 ⟨ok11, fmc.2 ⟨ok12, fmc.2 ⟨ok13, fmc.2 ⟨ok14, fmc.2 ⟨ok15, fmc.2 ⟨ok16, fmc.2 ⟨ok17, fmc.2 ⟨ok18, fmc.2 ⟨ok19, fmc.2 ⟨ok20, fmc.2 ⟨ok21, fmc.2 ⟨ok22, fmc.2 ⟨ok23, fmc.2 ⟨ok24, fmc.2 ⟨ok25, fmc.2 ⟨ok26, fmc.2 ⟨ok27, fmc.2 ⟨ok28, fmc.2 ⟨ok29, fmc.2 ⟨ok30, fmc.2 ⟨ok31, fmc.2 ⟨ok32, fmc.2 ⟨ok33, fmc.2 ⟨ok34, fmc.2 ⟨ok35, fmc.2 ⟨ok36, fmc.2 ⟨ok37, fmc.2 ⟨ok38, fmc.2 ⟨ok39, fmc.2 ⟨ok40, fmc.2 ⟨ok41, fmc.2 ⟨ok42, fmc.2 ⟨ok43, fmc.2 ⟨ok44, fmc.2 ⟨ok45, fmc.2 ⟨ok46, fmc.2 ⟨ok47, fmc.2 ⟨ok48, fmc.2 ⟨ok49, fmc.2 ⟨ok50, fmc.2 ⟨ok51, fmc.2 ⟨ok52, fmc.2 ⟨ok53, fmc.2 ⟨ok54, fmc.2 ⟨ok55, fmc.2 ⟨ok56, fmc.2 ⟨ok57, fmc.2 ⟨ok58, fmc.2 ⟨ok59, fmc.2 ⟨ok60, fmc.2 ⟨ok61, fmc.2 ⟨ok62, fmc.2 ⟨ok63, fmc.2 ⟨ok66, fmc.2 ⟨ok67, fmc.2 ⟨ok68, fmc.2 ⟨ok69, fmc.2 ⟨ok70, fmc.2 ⟨ok71, fmc.2 ⟨ok72, fmc.2 ⟨ok73, fmc.2 ⟨ok74, fmc.2 ⟨ok75, fmc.2 ⟨ok76, fmc.2 ⟨ok77, fmc.2 ⟨ok78, fmc.2 ⟨ok79, fmc.2 ⟨ok80, fmc.2 ⟨ok81, fmc.2 ⟨ok84, fmc.2 ⟨ok85, fmc.2 ⟨ok86, fmc.2 ⟨ok87, fmc.2 ⟨ok99, fun p hp => nomatch hp⟩⟩⟩⟩⟩⟩⟩⟩⟩⟩⟩⟩⟩⟩⟩⟩⟩⟩⟩⟩⟩⟩⟩⟩⟩⟩⟩⟩⟩⟩⟩⟩⟩⟩⟩⟩⟩⟩⟩⟩⟩⟩⟩⟩⟩⟩⟩⟩⟩⟩⟩⟩⟩⟩⟩⟩⟩⟩⟩⟩⟩⟩⟩⟩⟩⟩⟩⟩⟩⟩⟩⟩⟩⟩⟩⟩⟩⟩⟩⟩⟩⟩
theorem extAll : ∀ p ∈ extL, ExtOk Tryz.prog p.1 p.2 ∧ ∀ args A r, p.2 args A = some r → Grow A r.2 := fmc.2 ⟨⟨sort_ext, sort_grow⟩, fmc.2 ⟨⟨compact_ext, compact_grow⟩, fun p hp => nomatch hp⟩⟩
theorem envOk : EnvOk Tryz.prog env := ⟨fun g a _ h => envAll _ (lookup_mem h), fun g h e => (extAll _ (lookup_mem e)).1, fun g h e => (extAll _ (lookup_mem e)).2⟩
theorem E27 (j : Rec) (a b c : Int) (k : AMem) : enterF j a27 [.agg #[.int .i64 a, .int .i64 b], .int .i64 c] k = (Option.bind (intOf? .i64 (AMem.ld (k ++ [AObj.cells [.int .i64 a, .int .i64 b] ⟨false, 0⟩]) k.length 0)) fun d => (Option.bind (intOf? .i64 (AMem.ld (k ++ [AObj.cells [.int .i64 a, .int .i64 b] ⟨false, 0⟩]) k.length 1)) fun e => (Option.bind (j.call 48 [.agg #[.int .i64 d, .int .i64 e]] []) fun f => (Option.bind (boolOf? (some f.1)) fun g => (if (!g) = true then some (.pointer none, (k ++ [AObj.cells [.int .i64 a, .int .i64 b] ⟨false, 0⟩])) else (if (decide (c < 1)) = true then some (.pointer none, (k ++ [AObj.cells [.int .i64 a, .int .i64 b] ⟨false, 0⟩])) else (if (decide (c > 4096)) = true then some (.pointer none, (k ++ [AObj.cells [.int .i64 a, .int .i64 b] ⟨false, 0⟩])) else (Option.bind (intOf? .i64 (AMem.ld (k ++ [AObj.cells [.int .i64 a, .int .i64 b] ⟨false, 0⟩]) k.length 0)) fun h => (Option.bind (intOf? .i64 (AMem.ld (k ++ [AObj.cells [.int .i64 a, .int .i64 b] ⟨false, 0⟩]) k.length 1)) fun i => some (.pointer (some ⟨(List.length ((k ++ [AObj.cells [.int .i64 a, .int .i64 b] ⟨false, 0⟩]) ++ [AObj.map .i64 .i64 []])), 0, none⟩), (((k ++ [AObj.cells [.int .i64 a, .int .i64 b] ⟨false, 0⟩]) ++ [AObj.map .i64 .i64 []]) ++ [AObj.cells [.int .i64 h, .int .i64 i, .int .i64 c, (Value.map (some (List.length (k ++ [AObj.cells [.int .i64 a, .int .i64 b] ⟨false, 0⟩])))), .slice none 0 0] ⟨false, 0⟩]))))))))))) := by kernel_rfl
theorem E56 (e : Rec) (b : Option Addr) (f : AMem) : enterF e a56 [.pointer b] f = (if (!(Option.isNone b)) = true then (match b with | some a => (Option.bind (anyOf? (f.ld a.block (a.off + 3))) fun c => (Option.bind (isNil 3 c) fun d => some (.bool (!d), f))) | none => none) else some (.bool false, f)) := by kernel_rfl
def s63_25 (a : Option Addr) (b : Nat) (c : Int) (d : AMem) : List Value := .pointer a :: jk 2 (.pointer (some ⟨b, 0, none⟩) :: junk :: .int .i64 c :: jk 107 [])
noncomputable def F63_25 (a b : ACode) (f : Rec) := fun c d e g => code f a (blockK 0 (seqK (code f (.clear zl56 b) (retK [.tmp 4])) (retK [.tmp 4]))) (s63_25 c d e g) g

noncomputable def P63_25 := hid (F63_25 c63_25 c63_29)
def s63_29 (a : Option Addr) (b : Nat) (c : Int) (d : AMem) : List Value := .pointer a :: jk 2 (.pointer (some ⟨b, 0, none⟩) :: junk :: .int .i64 c :: jk 107 [])
noncomputable def F63_29 (a : ACode) (e : Rec) := fun b c d f => code e a (retK [.tmp 4]) (s63_29 b c d f) f

noncomputable def P63_29 := hid (F63_29 c63_29)
def s63_35 (e : Addr) (a b c d : Int) (f : AMem) : List Value := jk 7 (.pointer (some e) :: jk 89 (.agg #[.int .i64 a, .int .i64 b, .int .i64 c] :: .int .i64 d :: jk 14 []))
noncomputable def F63_35 (a b : ACode) (h : Rec) := fun g c d e f i => h.loop a (blockK 1 (seqK (code h (.clear zl55 b) (retK [.tmp 4])) (retK [.tmp 4]))) (s63_35 g c d e f i) i

noncomputable def P63_35 := hid (F63_35 b63_35 c63_48)
def s63_47 (e : Addr) (a b c d : Int) (f : AMem) : List Value := jk 7 (.pointer (some e) :: jk 89 (.agg #[.int .i64 a, .int .i64 b, .int .i64 c] :: .int .i64 d :: jk 14 []))
noncomputable def F63_47 (a b c : ACode) (i : Rec) := fun h d e f g j => code i b (postK zl54 (loopK i a (blockK 1 (seqK (code i (.clear zl55 c) (retK [.tmp 4])) (retK [.tmp 4]))))) (s63_47 h d e f g j) j

noncomputable def P63_47 := hid (F63_47 b63_35 c63_47 c63_48)
def s63_48 (a : AMem) : List Value := jk 113 []
noncomputable def F63_48 (a : ACode) (b : Rec) := fun c => code b a (retK [.tmp 4]) (s63_48 c) c

noncomputable def P63_48 := hid (F63_48 c63_48)
theorem QP63_25_eq (x : Rec) (d : ACode) (e : Rec → (Option Addr) → Nat → Int → AMem → Res) (g : Eq e fun x k p h y => code x (.seq (.draw [] 0 o63_26 []) (.draw [] 0 o63_27 [(4, 8)])) (blockK 0 (seqK (code x (.clear zl56 d) (retK [.tmp 4])) (retK [.tmp 4]))) (s63_25 k p h y) y) (f) (i : f = F63_29 d) (k : Option Addr) (p : Nat) (h : Int) (y : AMem) : e x k p h y = (match k with | some q => (Option.bind (anyOf? (y.ld q.block (q.off + 3))) fun w => (Option.bind (intOf? .i64 (y.ld p 0)) fun c => (Option.bind (mapOf? (some w)) fun b => (Option.bind (AMem.mp y .i64 .i64 b) fun a => (match k with | some l => (Option.bind (sliceOf? (AMem.ld (AMem.mput y .i64 .i64 b (mset c h a)) l.block (l.off + 4))) fun m => (Option.bind (intOf? .i64 (AMem.ld (AMem.mput y .i64 .i64 b (mset c h a)) p 0)) fun n => (Option.bind (rowOf ((AMem.mput y .i64 .i64 b (mset c h a)) ++ [AObj.cells [.int .i64 n, .int .u64 0, .int .u64 0, .int .u64 0] ⟨false, 0⟩]) 4 (.slice (some ⟨(List.length (AMem.mput y .i64 .i64 b (mset c h a))), 0, none⟩) 1 4)) fun o => (appendK 4 32 m.1 m.2.1 m.2.2 1 o ((AMem.mput y .i64 .i64 b (mset c h a)) ++ [AObj.cells [.int .i64 n, .int .u64 0, .int .u64 0, .int .u64 0] ⟨false, 0⟩]) fun r s t u => (match k with | some j => (Option.bind (u.wr j.block (j.off + 4) [.slice r s t]) fun v => (if chkOk [(4, 8)] [(4, l.block)] [(8, ((AMem.mput y .i64 .i64 b (mset c h a)), ((AMem.mput y .i64 .i64 b (mset c h a)) ++ [AObj.cells [.int .i64 n, .int .u64 0, .int .u64 0, .int .u64 0] ⟨false, 0⟩])))] = true then f x k p h v else none)) | none => none))))) | none => none))))) | none => none) := by
  subst g; subst i; kernel_rfl
abbrev P63_25_eq (L : Rec) := QP63_25_eq L _ P63_25 (hE _) P63_29 (hE _)
theorem QP63_29_eq (p : Rec) (a b : ACode) (c : Rec → (Option Addr) → Nat → Int → AMem → Res) (e : Eq c fun p l g h q => code p (.seq (.ops o63_30) (.seq (.seq (.ops o63_33) (.block 1 (.clear zl54 (.loop a)))) (.clear zl55 b))) (retK [.tmp 4]) (s63_29 l g h q) q) (d) (f : d = F63_35 a b) (l : Option Addr) (g : Nat) (h : Int) (q : AMem) : c p l g h q = (match l with | some i => (Option.bind (sliceOf? (q.ld i.block (i.off + 4))) fun j => (match j.1 with | some k => (if (0 : Int) ≤ h ∧ h < (Int.ofNat j.2.1) then (Option.bind (intOf? .i64 (q.ld g 1)) fun m => (Option.bind (intOf? .i64 (q.ld g 2)) fun n => (Option.bind (intOf? .i64 (q.ld g 3)) fun o => d p ⟨k.block, ((k.off + ((Int.toNat h) * 4)) + 1), none⟩ m n o 0 q))) else none) | none => none)) | none => none) := by
  subst e; subst f; kernel_rfl
abbrev P63_29_eq (L : Rec) := QP63_29_eq L _ _ P63_29 (hE _) P63_35 (hE _)
theorem QP63_35_eq (s : Rec) (b g c : ACode) (r : HB s b (.post (.seq (.ops o63_37) (.seq (.cond (.tmp 99) (.skip) (.exit 1)) (.seq (.block 2 (.seq (.ops o63_45) (.draw [] 0 o63_46 []))) (.clear zl54 g)))) zl54)) (h) (k : h = F63_35 b c) (i) (l : i = F63_47 b g c) (j) (m : j = F63_48 c) (n : Addr) (d e f a : Int) (t : AMem) : h s n d e f a t = (if (decide (a < 3)) = true then (if (0 : Int) ≤ a ∧ a < 3 then (Option.bind (([d, e, f] : List Int)[((Int.toNat a) * 1)]?) fun o => (if (0 : Int) ≤ a ∧ a < 3 then (Option.bind (intOf? .u64 (t.ld n.block (n.off + ((Int.toNat a) * 1)))) fun p => (if (0 : Int) ≤ a ∧ a < 3 then (Option.bind (t.wr n.block (n.off + ((Int.toNat a) * 1)) [.int .u64 (IntKind.wrap .u64 (p + (IntKind.wrap .u64 o)))]) fun q => i s n d e f a q) else none)) else none)) else none) else j s t) := by
  subst k; subst l; subst m; exact (r _ _ _).trans (by kernel_rfl)
abbrev P63_35_eq (L : Rec) (hL : HL L) := QP63_35_eq L _ _ _ (hL b63_35) P63_35 (hE _) P63_47 (hE _) P63_48 (hE _)
theorem QP63_47_eq (l : Rec) (d e : ACode) (f) (h : f = F63_35 d e) (g : Rec → Addr → Int → Int → Int → Int → AMem → Res) (i : Eq g fun l k a b c j m => code l (.ops o63_47) (postK zl54 (loopK l d (blockK 1 (seqK (code l (.clear zl55 e) (retK [.tmp 4])) (retK [.tmp 4]))))) (s63_47 k a b c j m) m) (k : Addr) (a b c j : Int) (m : AMem) : g l k a b c j m = f l k a b c (IntKind.wrap .i64 (j + 1)) m := by
  subst h; subst i; kernel_rfl
abbrev P63_47_eq (L : Rec) := QP63_47_eq L _ _ P63_35 (hE _) P63_47 (hE _)
theorem QP63_48_eq (c : Rec) (a : Rec → AMem → Res) (b : Eq a fun c d => code c (.seq (.ops o63_49) (.ret)) (retK [.tmp 4]) (s63_48 d) d) (d : AMem) : a c d = some (.bool true, d) := by
  subst b; kernel_rfl
abbrev P63_48_eq (L : Rec) := QP63_48_eq L P63_48 (hE _)
theorem QE63 (L : Rec) (g c : ACode) (d) (i : d = F63_25 g c) (e) (j : e = F63_29 c) (h : Option Addr) (l m n o : Int) (M : AMem) : enterF L ⟨113, [.tmp 4], .seq (.ops o63_1) (.seq (.seq (.draw [] 0 o63_4 []) (.cond (.tmp 28) (.seq (.ops o63_7) (.ret)) (.skip))) (.seq (.draw [] 0 o63_11 []) (.seq (.block 0 (.seq (.draw [] 0 o63_15 []) (.cond (.tmp 39) (.seq (.ops o63_18) (.ret)) (.seq (.ops o63_21) (.cond (.tmp 54) (.seq (.ops o63_24) (.clear zl56 g)) (.skip)))))) (.clear zl56 c))))⟩ [.pointer h, .agg #[.int .i64 l, .int .i64 m, .int .i64 n, .int .i64 o]] M = (Option.bind (L.call 56 [.pointer h] (M ++ [AObj.cells [.int .i64 l, .int .i64 m, .int .i64 n, .int .i64 o] ⟨false, 0⟩])) fun a => (Option.bind (boolOf? (some a.1)) fun E => (if (!E) = true then some (.bool false, a.2) else (match h with | some k => (Option.bind (intOf? .i64 (a.2.ld k.block k.off)) fun F => (Option.bind (intOf? .i64 (a.2.ld k.block (k.off + 1))) fun G => (Option.bind (intOf? .i64 (a.2.ld M.length 0)) fun H => (Option.bind (L.call 29 [.agg #[.int .i64 F, .int .i64 G], .int .i64 H] []) fun I => (Option.bind (intOf? .i64 (some I.1)) fun J => (if (decide (J < 0)) = true then some (.bool false, a.2) else (Option.bind (intOf? .i64 (a.2.ld M.length 1)) fun K => (Option.bind (intOf? .i64 (a.2.ld M.length 2)) fun u => (Option.bind (intOf? .i64 (a.2.ld M.length 3)) fun v => (Option.bind (L.call 30 [.agg #[.int .i64 K, .int .i64 u, .int .i64 v]] []) fun w => (Option.bind (boolOf? (some w.1)) fun x => (if (!x) = true then some (.bool false, a.2) else (match h with | some p => (Option.bind (anyOf? (a.2.ld p.block (p.off + 3))) fun y => (Option.bind (intOf? .i64 (a.2.ld M.length 0)) fun f => (Option.bind (mapOf? (some y)) fun z => (Option.bind (AMem.mp a.2 .i64 .i64 z) fun b => (if (!(Option.isSome (mget f b))) = true then (match h with | some q => (Option.bind (sliceOf? (a.2.ld q.block (q.off + 4))) fun A => (match h with | some r => (Option.bind (intOf? .i64 (a.2.ld r.block (r.off + 2))) fun B => (if ((Int.ofNat A.2.1) == B) = true then some (.bool false, a.2) else (if (!(Option.isSome (mget f b))) = true then (match h with | some s => (Option.bind (sliceOf? (a.2.ld s.block (s.off + 4))) fun C => d L h M.length (Int.ofNat C.2.1) a.2) | none => none) else e L h M.length (Option.getD (mget f b) 0) a.2))) | none => none)) | none => none) else (if (!(Option.isSome (mget f b))) = true then (match h with | some t => (Option.bind (sliceOf? (a.2.ld t.block (t.off + 4))) fun D => d L h M.length (Int.ofNat D.2.1) a.2) | none => none) else e L h M.length (Option.getD (mget f b) 0) a.2)))))) | none => none))))))))))))) | none => none)))) := by
  subst i; subst j; kernel_rfl
abbrev E63 (L : Rec) (x0 : Option Addr) (x1_0 x1_1 x1_2 x1_3 : Int) (M : AMem) := (Eq.refl (enterF L a63 [.pointer x0, .agg #[.int .i64 x1_0, .int .i64 x1_1, .int .i64 x1_2, .int .i64 x1_3]] M)).trans (QE63 L _ _ P63_25 (hE _) P63_29 (hE _) x0 x1_0 x1_1 x1_2 x1_3 M)
theorem E33 (f : Rec) (c : Option Addr) (g : AMem) : enterF f a33 [.pointer c] g = (Option.bind (f.call 56 [.pointer c] g) fun a => (Option.bind (boolOf? (some a.1)) fun d => (if (!d) = true then some (.int .i64 0, a.2) else (match c with | some b => (Option.bind (sliceOf? (a.2.ld b.block (b.off + 4))) fun e => some (.int .i64 (Int.ofNat e.2.1), a.2)) | none => none)))) := by kernel_rfl
def s40_16 (h i : Option Addr) (c d : Nat) (e : Option Addr) (a b : Nat) (f g : Int) (j : AMem) : List Value := .pointer h :: jk 2 (.slice i c d :: jk 8 (.slice e a b :: .int .i64 f :: .int .i64 g :: jk 18 []))
noncomputable def F40_16 (a b : ACode) (l : Rec) := fun j k e f g c d h i m => l.loop a (blockK 0 (seqK (code l (.clear zl35 b) (retK [.tmp 2])) (retK [.tmp 2]))) (s40_16 j k e f g c d h i m) m

noncomputable def P40_16 := hid (F40_16 b40_16 c40_29)
def s40_28 (h i : Option Addr) (c d : Nat) (e : Option Addr) (a b : Nat) (f g : Int) (j : AMem) : List Value := .pointer h :: jk 2 (.slice i c d :: jk 8 (.slice e a b :: .int .i64 f :: .int .i64 g :: jk 18 []))
noncomputable def F40_28 (a b c : ACode) (m : Rec) := fun k l f g h d e i j n => code m b (postK zl34 (loopK m a (blockK 0 (seqK (code m (.clear zl35 c) (retK [.tmp 2])) (retK [.tmp 2]))))) (s40_28 k l f g h d e i j n) n

noncomputable def P40_28 := hid (F40_28 b40_16 c40_28 c40_29)
def s40_29 (c : Option Addr) (a b : Nat) (d : AMem) : List Value := jk 3 (.slice c a b :: jk 29 [])
noncomputable def F40_29 (a : ACode) (e : Rec) := fun d b c f => code e a (retK [.tmp 2]) (s40_29 d b c f) f

noncomputable def P40_29 := hid (F40_29 c40_29)
theorem QP40_16_eq (K : Rec) (a e b : ACode) (J : HB K a (.post (.seq (.ops o40_18) (.seq (.cond (.tmp 15) (.skip) (.exit 0)) (.seq (.block 1 (.seq (.ops o40_26) (.draw [] 0 o40_27 []))) (.clear zl34 e)))) zl34)) (f) (j : f = F40_16 a b) (g) (k : g = F40_28 a e b) (h) (l : h = F40_29 b) (B C : Option Addr) (r s : Nat) (t : Option Addr) (m p : Nat) (u c : Int) (L : AMem) : f K B C r s t m p u c L = (if (decide (c < u)) = true then (match t with | some d => (if (0 : Int) ≤ c ∧ c < (Int.ofNat m) then (Option.bind (intOf? .i64 (L.ld d.block (d.off + ((Int.toNat c) * 4)))) fun D => (Option.bind (intOf? .u64 (L.ld d.block ((d.off + ((Int.toNat c) * 4)) + 1))) fun E => (Option.bind (intOf? .u64 (L.ld d.block ((d.off + ((Int.toNat c) * 4)) + 2))) fun F => (Option.bind (intOf? .u64 (L.ld d.block ((d.off + ((Int.toNat c) * 4)) + 3))) fun G => (Option.bind (AMem.wr (L ++ [AObj.cells [.int .i64 0, .int .u64 0, .int .u64 0, .int .u64 0] ⟨false, 0⟩]) L.length 0 [.int .i64 D, .int .u64 E, .int .u64 F, .int .u64 G]) fun i => (match B with | some n => (Option.bind (intOf? .i64 (i.ld n.block n.off)) fun H => (Option.bind (intOf? .i64 (i.ld n.block (n.off + 1))) fun I => (Option.bind (intOf? .i64 (i.ld L.length 0)) fun v => (Option.bind (K.call 29 [.agg #[.int .i64 H, .int .i64 I], .int .i64 v] []) fun w => (Option.bind (intOf? .i64 (some w.1)) fun q => (Option.bind (rowOf (i ++ [AObj.cells [.int .i64 q] ⟨false, 0⟩]) 1 (.slice (some ⟨i.length, 0, none⟩) 1 1)) fun o => (appendK 1 8 C r s 1 o (i ++ [AObj.cells [.int .i64 q] ⟨false, 0⟩]) fun x y z A => g K B x y z t m p u c A))))))) | none => none)))))) else none) | none => none) else h K C r s L) := by
  subst j; subst k; subst l; exact (J _ _ _).trans (by kernel_rfl)
abbrev P40_16_eq (L : Rec) (hL : HL L) := QP40_16_eq L _ _ _ (hL b40_16) P40_16 (hE _) P40_28 (hE _) P40_29 (hE _)
theorem QP40_28_eq (p : Rec) (a b : ACode) (c) (g : c = F40_16 a b) (d : Rec → (Option Addr) → (Option Addr) → Nat → Nat → (Option Addr) → Nat → Nat → Int → Int → AMem → Res) (h : Eq d fun p n o i j k e f l m q => code p (.ops o40_28) (postK zl34 (loopK p a (blockK 0 (seqK (code p (.clear zl35 b) (retK [.tmp 2])) (retK [.tmp 2]))))) (s40_28 n o i j k e f l m q) q) (n o : Option Addr) (i j : Nat) (k : Option Addr) (e f : Nat) (l m : Int) (q : AMem) : d p n o i j k e f l m q = c p n o i j k e f l (IntKind.wrap .i64 (m + 1)) q := by
  subst g; subst h; kernel_rfl
abbrev P40_28_eq (L : Rec) := QP40_28_eq L _ _ P40_16 (hE _) P40_28 (hE _)
theorem QP40_29_eq (j : Rec) (a : Rec → (Option Addr) → Nat → Nat → AMem → Res) (b : Eq a fun j f c d k => code j (.seq (.ops o40_30) (.seq (.ops o40_32) (.ret))) (retK [.tmp 2]) (s40_29 f c d k) k) (f : Option Addr) (c d : Nat) (k : AMem) : a j f c d k = (Option.bind (j.call 64 [.slice f c d] k) fun g => (Option.bind (tupOf? 0 g.1) fun i => (Option.bind (j.call 65 [.slice f c d] g.2) fun h => (Option.bind (sliceOf? (some h.1)) fun e => some (.slice e.1 e.2.1 e.2.2, h.2))))) := by
  subst b; kernel_rfl
abbrev P40_29_eq (L : Rec) := QP40_29_eq L P40_29 (hE _)
theorem QE40 (j : Rec) (a b : ACode) (c) (d : c = F40_16 a b) (h : Option Addr) (k : AMem) : enterF j ⟨33, [.tmp 2], .seq (.ops o40_1) (.seq (.seq (.ops o40_4) (.cond (.tmp 8) (.seq (.ops o40_7) (.ret)) (.skip))) (.seq (.ops o40_11) (.seq (.seq (.ops o40_14) (.block 0 (.clear zl34 (.loop a)))) (.clear zl35 b))))⟩ [.pointer h] k = (Option.bind (j.call 56 [.pointer h] k) fun e => (Option.bind (boolOf? (some e.1)) fun i => (if (!i) = true then some (.slice none 0 0, e.2) else (match h with | some g => (Option.bind (sliceOf? (e.2.ld g.block (g.off + 4))) fun f => c j h none 0 0 f.1 f.2.1 f.2.2 (Int.ofNat f.2.1) 0 e.2) | none => none)))) := by
  subst d; kernel_rfl
abbrev E40 (L : Rec) (x0 : Option Addr) (M : AMem) := (Eq.refl (enterF L a40 [.pointer x0] M)).trans (QE40 L _ _ P40_16 (hE _) x0 M)
def s61_16 (j : Option Addr) (k : Int) (l : Option Addr) (c d : Nat) (m : Option Addr) (e f : Nat) (g : Option Addr) (a b : Nat) (h i : Int) (n : AMem) : List Value := .pointer j :: .int .i64 k :: jk 3 (.slice l c d :: .slice m e f :: jk 8 (.slice g a b :: .int .i64 h :: .int .i64 i :: jk 40 []))
noncomputable def F61_16 (a b : ACode) (p : Rec) := fun l m n e f o g h i c d j k q => p.loop a (blockK 0 (seqK (code p (.clear zl49 b) (retK [.tmp 4])) (retK [.tmp 4]))) (s61_16 l m n e f o g h i c d j k q) q

noncomputable def P61_16 := hid (F61_16 b61_16 c61_41)
def s61_40 (j : Option Addr) (k : Int) (l : Option Addr) (c d : Nat) (m : Option Addr) (e f : Nat) (g : Option Addr) (a b : Nat) (h i : Int) (n : AMem) : List Value := .pointer j :: .int .i64 k :: jk 3 (.slice l c d :: .slice m e f :: jk 8 (.slice g a b :: .int .i64 h :: .int .i64 i :: jk 40 []))
noncomputable def F61_40 (a b c : ACode) (q : Rec) := fun m n o f g p h i j d e k l r => code q b (postK zl48 (loopK q a (blockK 0 (seqK (code q (.clear zl49 c) (retK [.tmp 4])) (retK [.tmp 4]))))) (s61_40 m n o f g p h i j d e k l r) r

noncomputable def P61_40 := hid (F61_40 b61_16 c61_40 c61_41)
def s61_41 (e f : Option Addr) (a b : Nat) (g : Option Addr) (c d : Nat) (h : AMem) : List Value := .pointer e :: jk 4 (.slice f a b :: .slice g c d :: jk 51 [])
noncomputable def F61_41 (a : ACode) (i : Rec) := fun f g b c h d e j => code i a (retK [.tmp 4]) (s61_41 f g b c h d e j) j

noncomputable def P61_41 := hid (F61_41 c61_41)
theorem QP61_16_eq (aB : Rec) (g k h : ACode) (aA : HB aB g (.post (.seq (.ops o61_18) (.seq (.cond (.tmp 18) (.skip) (.exit 0)) (.seq (.block 1 (.seq (.ops o61_26) (.seq (.seq (.draw [] 0 o61_29 []) (.cond (.tmp 29) (.seq (.ops o61_32) (.seq (.draw [] 0 o61_34 []) (.exit 1))) (.skip))) (.seq (.draw [] 0 o61_38 []) (.ops o61_39))))) (.clear zl48 k)))) zl48)) (l) (p : l = F61_16 g h) (i) (q : i = F61_40 g k h) (m) (r : m = F61_41 h) (M : Option Addr) (a1 : Int) (a2 : Option Addr) (t u : Nat) (a3 : Option Addr) (d v : Nat) (w : Option Addr) (n s : Nat) (x f : Int) (aC : AMem) : l aB M a1 a2 t u a3 d v w n s x f aC = (if (decide (f < x)) = true then (match w with | some j => (if (0 : Int) ≤ f ∧ f < (Int.ofNat n) then (Option.bind (intOf? .i64 (aC.ld j.block (j.off + ((Int.toNat f) * 4)))) fun a4 => (Option.bind (intOf? .u64 (aC.ld j.block ((j.off + ((Int.toNat f) * 4)) + 1))) fun a5 => (Option.bind (intOf? .u64 (aC.ld j.block ((j.off + ((Int.toNat f) * 4)) + 2))) fun a6 => (Option.bind (intOf? .u64 (aC.ld j.block ((j.off + ((Int.toNat f) * 4)) + 3))) fun a7 => (Option.bind (AMem.wr (aC ++ [AObj.cells [.int .i64 0, .int .u64 0, .int .u64 0, .int .u64 0] ⟨false, 0⟩]) aC.length 0 [.int .i64 a4, .int .u64 a5, .int .u64 a6, .int .u64 a7]) fun a => (match M with | some y => (Option.bind (intOf? .i64 (a.ld y.block y.off)) fun a8 => (Option.bind (intOf? .i64 (a.ld y.block (y.off + 1))) fun a9 => (Option.bind (intOf? .i64 (a.ld aC.length 0)) fun O => (Option.bind (aB.call 29 [.agg #[.int .i64 a8, .int .i64 a9], .int .i64 O] []) fun P => (Option.bind (intOf? .i64 (some P.1)) fun Q => (if (Q == a1) = true then (Option.bind (intOf? .i64 (a.ld aC.length 0)) fun B => (Option.bind (intOf? .u64 (a.ld aC.length 1)) fun C => (Option.bind (intOf? .u64 (a.ld aC.length 2)) fun D => (Option.bind (intOf? .u64 (a.ld aC.length 3)) fun E => (Option.bind (rowOf (a ++ [AObj.cells [.int .i64 B, .int .u64 C, .int .u64 D, .int .u64 E] ⟨false, 0⟩]) 4 (.slice (some ⟨a.length, 0, none⟩) 1 4)) fun z => (appendK 4 32 a2 t u 1 z (a ++ [AObj.cells [.int .i64 B, .int .u64 C, .int .u64 D, .int .u64 E] ⟨false, 0⟩]) fun R S T o => (match M with | some F => (Option.bind (anyOf? (o.ld F.block (F.off + 3))) fun U => (Option.bind (intOf? .i64 (o.ld aC.length 0)) fun V => (Option.bind (mapOf? (some U)) fun G => (Option.bind (AMem.mp o .i64 .i64 G) fun N => i aB M a1 R S T a3 d v w n s x f (AMem.mput o .i64 .i64 G (mdel V N)))))) | none => none))))))) else (match M with | some H => (Option.bind (anyOf? (a.ld H.block (H.off + 3))) fun W => (Option.bind (intOf? .i64 (a.ld aC.length 0)) fun e => (Option.bind (mapOf? (some W)) fun c => (Option.bind (AMem.mp a .i64 .i64 c) fun b => (Option.bind (intOf? .i64 (AMem.ld (AMem.mput a .i64 .i64 c (mset e (Int.ofNat d) b)) aC.length 0)) fun I => (Option.bind (intOf? .u64 (AMem.ld (AMem.mput a .i64 .i64 c (mset e (Int.ofNat d) b)) aC.length 1)) fun J => (Option.bind (intOf? .u64 (AMem.ld (AMem.mput a .i64 .i64 c (mset e (Int.ofNat d) b)) aC.length 2)) fun K => (Option.bind (intOf? .u64 (AMem.ld (AMem.mput a .i64 .i64 c (mset e (Int.ofNat d) b)) aC.length 3)) fun L => (Option.bind (rowOf ((AMem.mput a .i64 .i64 c (mset e (Int.ofNat d) b)) ++ [AObj.cells [.int .i64 I, .int .u64 J, .int .u64 K, .int .u64 L] ⟨false, 0⟩]) 4 (.slice (some ⟨(List.length (AMem.mput a .i64 .i64 c (mset e (Int.ofNat d) b))), 0, none⟩) 1 4)) fun A => (appendK 4 32 a3 d v 1 A ((AMem.mput a .i64 .i64 c (mset e (Int.ofNat d) b)) ++ [AObj.cells [.int .i64 I, .int .u64 J, .int .u64 K, .int .u64 L] ⟨false, 0⟩]) fun X Y Z a0 => i aB M a1 a2 t u X Y Z w n s x f a0)))))))))) | none => none))))))) | none => none)))))) else none) | none => none) else m aB M a2 t u a3 d v aC) := by
  subst p; subst q; subst r; exact (aA _ _ _).trans (by kernel_rfl)
abbrev P61_16_eq (L : Rec) (hL : HL L) := QP61_16_eq L _ _ _ (hL b61_16) P61_16 (hE _) P61_40 (hE _) P61_41 (hE _)
theorem QP61_40_eq (t : Rec) (a b : ACode) (c) (g : c = F61_16 a b) (d : Rec → (Option Addr) → Int → (Option Addr) → Nat → Nat → (Option Addr) → Nat → Nat → (Option Addr) → Nat → Nat → Int → Int → AMem → Res) (h : Eq d fun t p q r i j s k l m e f n o u => code t (.ops o61_40) (postK zl48 (loopK t a (blockK 0 (seqK (code t (.clear zl49 b) (retK [.tmp 4])) (retK [.tmp 4]))))) (s61_40 p q r i j s k l m e f n o u) u) (p : Option Addr) (q : Int) (r : Option Addr) (i j : Nat) (s : Option Addr) (k l : Nat) (m : Option Addr) (e f : Nat) (n o : Int) (u : AMem) : d t p q r i j s k l m e f n o u = c t p q r i j s k l m e f n (IntKind.wrap .i64 (o + 1)) u := by
  subst g; subst h; kernel_rfl
abbrev P61_40_eq (L : Rec) := QP61_40_eq L _ _ P61_16 (hE _) P61_40 (hE _)
theorem QP61_41_eq (l : Rec) (a : Rec → (Option Addr) → (Option Addr) → Nat → Nat → (Option Addr) → Nat → Nat → AMem → Res) (b : Eq a fun l h i c d j e f m => code l (.seq (.ops o61_42) (.seq (.ops o61_44) (.ret))) (retK [.tmp 4]) (s61_41 h i c d j e f m) m) (h i : Option Addr) (c d : Nat) (j : Option Addr) (e f : Nat) (m : AMem) : a l h i c d j e f m = (match h with | some g => (Option.bind (m.wr g.block (g.off + 4) [.slice j e f]) fun k => some (.slice i c d, k)) | none => none) := by
  subst b; kernel_rfl
abbrev P61_41_eq (L : Rec) := QP61_41_eq L P61_41 (hE _)
theorem QE61 (k : Rec) (a b : ACode) (c) (d : c = F61_16 a b) (h : Option Addr) (j : Int) (l : AMem) : enterF k ⟨58, [.tmp 4], .seq (.ops o61_1) (.seq (.seq (.ops o61_4) (.cond (.tmp 11) (.seq (.ops o61_7) (.ret)) (.skip))) (.seq (.ops o61_11) (.seq (.seq (.ops o61_14) (.block 0 (.clear zl48 (.loop a)))) (.clear zl49 b))))⟩ [.pointer h, .int .i64 j] l = (Option.bind (k.call 56 [.pointer h] l) fun e => (Option.bind (boolOf? (some e.1)) fun i => (if (!i) = true then some (.slice none 0 0, e.2) else (match h with | some g => (Option.bind (sliceOf? (e.2.ld g.block (g.off + 4))) fun f => c k h j none 0 0 none 0 0 f.1 f.2.1 f.2.2 (Int.ofNat f.2.1) 0 e.2) | none => none)))) := by
  subst d; kernel_rfl
abbrev E61 (L : Rec) (x0 : Option Addr) (x1 : Int) (M : AMem) := (Eq.refl (enterF L a61 [.pointer x0, .int .i64 x1] M)).trans (QE61 L _ _ P61_16 (hE _) x0 x1 M)
theorem E53 (d : Rec) (a b c : Int) : enterF d a53 [.agg #[.int .i64 a, .int .i64 b, .int .i64 c]] [] = some (.agg #[.int .i64 a, .int .i64 b, .int .i64 c], ([AObj.cells [.int .i64 a, .int .i64 b, .int .i64 c] ⟨false, 0⟩, AObj.cells [.int .i64 a, .int .i64 b, .int .i64 c] ⟨false, 1⟩] : AMem)) := by kernel_rfl
def s54_6 (g a b c h d e f : Int) : List Value := junk :: .int .i64 g :: jk 5 (.agg #[.int .i64 a, .int .i64 b, .int .i64 c] :: .int .i64 h :: jk 10 [])
noncomputable def F54_6 (e a : ACode) (k : Rec) := fun i f g h j b c d => k.loop e (blockK 0 (seqK (code k (.clear zl46 a) (retK [.tmp 4])) (retK [.tmp 4]))) (s54_6 i f g h j b c d) ([AObj.cells [.int .i64 b, .int .i64 c, .int .i64 d] ⟨false, 0⟩] : AMem)

noncomputable def P54_6 := hid (F54_6 b54_6 c54_25)
def s54_24 (g a b c h d e f : Int) : List Value := junk :: .int .i64 g :: jk 5 (.agg #[.int .i64 a, .int .i64 b, .int .i64 c] :: .int .i64 h :: jk 10 [])
noncomputable def F54_24 (f a b : ACode) (l : Rec) := fun j g h i k c d e => code l a (postK zl45 (loopK l f (blockK 0 (seqK (code l (.clear zl46 b) (retK [.tmp 4])) (retK [.tmp 4]))))) (s54_24 j g h i k c d e) ([AObj.cells [.int .i64 c, .int .i64 d, .int .i64 e] ⟨false, 0⟩] : AMem)

noncomputable def P54_24 := hid (F54_24 b54_6 c54_24 c54_25)
def s54_25 (a b c : Int) : List Value := jk 19 []
noncomputable def F54_25 (a : ACode) (e : Rec) := fun b c d => code e a (retK [.tmp 4]) (s54_25 b c d) ([AObj.cells [.int .i64 b, .int .i64 c, .int .i64 d] ⟨false, 0⟩] : AMem)

noncomputable def P54_25 := hid (F54_25 c54_25)
theorem QP54_6_eq (t : Rec) (e f a : ACode) (s : HB t e (.post (.seq (.ops o54_8) (.seq (.cond (.tmp 9) (.skip) (.exit 0)) (.seq (.block 1 (.seq (.ops o54_16) (.seq (.ops o54_18) (.cond (.tmp 17) (.seq (.ops o54_21) (.ret)) (.skip))))) (.clear zl45 f)))) zl45)) (l) (o : l = F54_6 e a) (g) (m : g = F54_24 e f a) (h) (n : h = F54_25 a) (r i j k p b c d : Int) : l t r i j k p b c d = (if (decide (p < 3)) = true then (if (0 : Int) ≤ p ∧ p < 3 then (Option.bind (([i, j, k] : List Int)[((Int.toNat p) * 1)]?) fun q => (if (decide (q < 0)) = true then some (.bool false, ([AObj.cells [.int .i64 b, .int .i64 c, .int .i64 d] ⟨false, 0⟩] : AMem)) else (if (decide (q > r)) = true then some (.bool false, ([AObj.cells [.int .i64 b, .int .i64 c, .int .i64 d] ⟨false, 0⟩] : AMem)) else g t r i j k p b c d))) else none) else h t b c d) := by
  subst o; subst m; subst n; exact (s (blockK 0 (seqK (code t (.clear zl46 a) (retK [.tmp 4])) (retK [.tmp 4]))) (s54_6 r i j k p b c d) ([AObj.cells [.int .i64 b, .int .i64 c, .int .i64 d] ⟨false, 0⟩] : AMem)).trans (by kernel_rfl)
abbrev P54_6_eq (L : Rec) (hL : HL L) := QP54_6_eq L _ _ _ (hL b54_6) P54_6 (hE _) P54_24 (hE _) P54_25 (hE _)
theorem QP54_24_eq (o : Rec) (i d : ACode) (j) (l : j = F54_6 i d) (e : Rec → Int → Int → Int → Int → Int → Int → Int → Int → Res) (k : Eq e fun o m f g h n a b c => code o (.ops o54_24) (postK zl45 (loopK o i (blockK 0 (seqK (code o (.clear zl46 d) (retK [.tmp 4])) (retK [.tmp 4]))))) (s54_24 m f g h n a b c) ([AObj.cells [.int .i64 a, .int .i64 b, .int .i64 c] ⟨false, 0⟩] : AMem)) (m f g h n a b c : Int) : e o m f g h n a b c = j o m f g h (IntKind.wrap .i64 (n + 1)) a b c := by
  subst l; subst k; kernel_rfl
abbrev P54_24_eq (L : Rec) := QP54_24_eq L _ _ P54_6 (hE _) P54_24 (hE _)
theorem QP54_25_eq (f : Rec) (d : Rec → Int → Int → Int → Res) (e : Eq d fun f a b c => code f (.seq (.ops o54_26) (.ret)) (retK [.tmp 4]) (s54_25 a b c) ([AObj.cells [.int .i64 a, .int .i64 b, .int .i64 c] ⟨false, 0⟩] : AMem)) (a b c : Int) : d f a b c = some (.bool true, ([AObj.cells [.int .i64 a, .int .i64 b, .int .i64 c] ⟨false, 0⟩] : AMem)) := by
  subst e; kernel_rfl
abbrev P54_25_eq (L : Rec) := QP54_25_eq L P54_25 (hE _)
theorem QE54 (i : Rec) (b a : ACode) (c) (g : c = F54_6 b a) (d e f h : Int) : enterF i ⟨19, [.tmp 4], .seq (.ops o54_1) (.seq (.seq (.ops o54_4) (.block 0 (.clear zl45 (.loop b)))) (.clear zl46 a))⟩ [.agg #[.int .i64 d, .int .i64 e, .int .i64 f], .int .i64 h] [] = c i h d e f 0 d e f := by
  subst g; kernel_rfl
abbrev E54 (L : Rec) (x0_0 x0_1 x0_2 x1 : Int) := (Eq.refl (enterF L a54 [.agg #[.int .i64 x0_0, .int .i64 x0_1, .int .i64 x0_2], .int .i64 x1] [])).trans (QE54 L _ _ P54_6 (hE _) x0_0 x0_1 x0_2 x1)
theorem E30 (k : Rec) (a b c : Int) : enterF k a30 [.agg #[.int .i64 a, .int .i64 b, .int .i64 c]] [] = (Option.bind (k.call 53 [.agg #[.int .i64 a, .int .i64 b, .int .i64 c]] []) fun e => (Option.bind (aggOf? 3 e.1) fun d => (Option.bind (intOf? .i64 (d[0]?)) fun f => (Option.bind (intOf? .i64 (d[1]?)) fun g => (Option.bind (intOf? .i64 (d[2]?)) fun h => (Option.bind (k.call 54 [.agg #[.int .i64 f, .int .i64 g, .int .i64 h], .int .i64 1099511627776] []) fun i => (Option.bind (boolOf? (some i.1)) fun j => some (.bool j, ([AObj.cells [.int .i64 a, .int .i64 b, .int .i64 c] ⟨false, 0⟩] : AMem))))))))) := by kernel_rfl
theorem E48 (c : Rec) (a b : Int) : enterF c a48 [.agg #[.int .i64 a, .int .i64 b]] [] = (if (decide (1 ≤ a)) = true then (if (decide (a ≤ 65536)) = true then (if (decide (1 ≤ b)) = true then some (.bool (decide (b ≤ 256)), ([AObj.cells [.int .i64 a, .int .i64 b] ⟨false, 0⟩] : AMem)) else some (.bool false, ([AObj.cells [.int .i64 a, .int .i64 b] ⟨false, 0⟩] : AMem))) else some (.bool false, ([AObj.cells [.int .i64 a, .int .i64 b] ⟨false, 0⟩] : AMem))) else some (.bool false, ([AObj.cells [.int .i64 a, .int .i64 b] ⟨false, 0⟩] : AMem))) := by kernel_rfl
def s49_25 (a b : Int) : List Value := jk 2 (.pointer (some ⟨0, 0, none⟩) :: jk 16 [])
noncomputable def F49_25 (a : ACode) (d : Rec) := fun b c => code d a (retK [.tmp 4]) (s49_25 b c) ([AObj.cells [.int .i64 b, .int .i64 c] ⟨false, 0⟩] : AMem)

noncomputable def P49_25 := hid (F49_25 c49_25)
theorem QP49_25_eq (e : Rec) (c : Rec → Int → Int → Res) (d : Eq c fun e b a => code e (.seq (.ops o49_26) (.ret)) (retK [.tmp 4]) (s49_25 b a) ([AObj.cells [.int .i64 b, .int .i64 a] ⟨false, 0⟩] : AMem)) (b a : Int) : c e b a = some (.int .i64 (IntKind.wrap .i64 (1 + (IntKind.wrap .i64 (2 * a)))), ([AObj.cells [.int .i64 b, .int .i64 a] ⟨false, 0⟩] : AMem)) := by
  subst d; kernel_rfl
abbrev P49_25_eq (L : Rec) := QP49_25_eq L P49_25 (hE _)
theorem QE49 (g : Rec) (c : ACode) (d) (e : d = F49_25 c) (b a f : Int) : enterF g ⟨19, [.tmp 4], .seq (.ops o49_1) (.seq (.seq (.ops o49_4) (.block 0 (.seq (.ops o49_7) (.cond (.tmp 6) (.seq (.ops o49_10) (.ret)) (.seq (.ops o49_13) (.cond (.tmp 8) (.seq (.ops o49_16) (.ret)) (.seq (.ops o49_19) (.cond (.tmp 10) (.seq (.ops o49_22) (.ret)) (.skip))))))))) (.clear zl44 c))⟩ [.agg #[.int .i64 b, .int .i64 a], .int .i64 f] [] = (if (f == 1) = true then some (.int .i64 0, ([AObj.cells [.int .i64 b, .int .i64 a] ⟨false, 0⟩] : AMem)) else (if (f == 2) = true then some (.int .i64 1, ([AObj.cells [.int .i64 b, .int .i64 a] ⟨false, 0⟩] : AMem)) else (if (f == 3) = true then some (.int .i64 (IntKind.wrap .i64 (1 + a)), ([AObj.cells [.int .i64 b, .int .i64 a] ⟨false, 0⟩] : AMem)) else d g b a))) := by
  subst e; kernel_rfl
abbrev E49 (L : Rec) (x0_0 x0_1 x1 : Int) := (Eq.refl (enterF L a49 [.agg #[.int .i64 x0_0, .int .i64 x0_1], .int .i64 x1] [])).trans (QE49 L _ P49_25 (hE _) x0_0 x0_1 x1)
theorem E24 (g : Rec) (a b : Int) : enterF g a24 [.agg #[.int .i64 a, .int .i64 b]] [] = (Option.bind (g.call 48 [.agg #[.int .i64 a, .int .i64 b]] []) fun c => (Option.bind (boolOf? (some c.1)) fun d => (if (!d) = true then some (.int .i64 0, ([AObj.cells [.int .i64 a, .int .i64 b] ⟨false, 0⟩] : AMem)) else (Option.bind (g.call 49 [.agg #[.int .i64 a, .int .i64 b], .int .i64 4] []) fun e => (Option.bind (intOf? .i64 (some e.1)) fun f => some (.int .i64 (IntKind.wrap .i64 (f + (IntKind.wrap .i64 (3 * a)))), ([AObj.cells [.int .i64 a, .int .i64 b] ⟨false, 0⟩] : AMem))))))) := by kernel_rfl
theorem E51 (j : Rec) (a b h c i : Int) : enterF j a51 [.agg #[.int .i64 a, .int .i64 b], .int .i64 h, .int .i64 c, .int .i64 i] [] = (Option.bind (j.call 48 [.agg #[.int .i64 a, .int .i64 b]] []) fun d => (Option.bind (boolOf? (some d.1)) fun e => (if (!e) = true then some (.int .i64 (-1), ([AObj.cells [.int .i64 a, .int .i64 b] ⟨false, 0⟩] : AMem)) else (if (decide (c < 0)) = true then some (.int .i64 (-1), ([AObj.cells [.int .i64 a, .int .i64 b] ⟨false, 0⟩] : AMem)) else (if (decide (c ≥ i)) = true then some (.int .i64 (-1), ([AObj.cells [.int .i64 a, .int .i64 b] ⟨false, 0⟩] : AMem)) else (Option.bind (j.call 49 [.agg #[.int .i64 a, .int .i64 b], .int .i64 h] []) fun f => (Option.bind (intOf? .i64 (some f.1)) fun g => some (.int .i64 (IntKind.wrap .i64 (g + c)), ([AObj.cells [.int .i64 a, .int .i64 b] ⟨false, 0⟩] : AMem))))))))) := by kernel_rfl
theorem E80 (f : Rec) (b a e : Int) : enterF f a80 [.agg #[.int .i64 b, .int .i64 a], .int .i64 e] [] = (Option.bind (f.call 51 [.agg #[.int .i64 b, .int .i64 a], .int .i64 2, .int .i64 e, .int .i64 a] []) fun c => (Option.bind (intOf? .i64 (some c.1)) fun d => some (.int .i64 d, ([AObj.cells [.int .i64 b, .int .i64 a] ⟨false, 0⟩] : AMem)))) := by kernel_rfl
theorem E87 (f : Rec) (b a e : Int) : enterF f a87 [.agg #[.int .i64 b, .int .i64 a], .int .i64 e] [] = (Option.bind (f.call 51 [.agg #[.int .i64 b, .int .i64 a], .int .i64 3, .int .i64 e, .int .i64 a] []) fun c => (Option.bind (intOf? .i64 (some c.1)) fun d => some (.int .i64 d, ([AObj.cells [.int .i64 b, .int .i64 a] ⟨false, 0⟩] : AMem)))) := by kernel_rfl
theorem E26 (g : Rec) (a b c d : Int) : enterF g a26 [.agg #[.int .i64 a, .int .i64 b], .int .i64 c, .int .i64 d] [] = (if (decide (d < 0)) = true then some (.int .i64 (-1), ([AObj.cells [.int .i64 a, .int .i64 b] ⟨false, 0⟩] : AMem)) else (if (decide (d ≥ 3)) = true then some (.int .i64 (-1), ([AObj.cells [.int .i64 a, .int .i64 b] ⟨false, 0⟩] : AMem)) else (if (decide (c < 0)) = true then some (.int .i64 (-1), ([AObj.cells [.int .i64 a, .int .i64 b] ⟨false, 0⟩] : AMem)) else (if (decide (c ≥ a)) = true then some (.int .i64 (-1), ([AObj.cells [.int .i64 a, .int .i64 b] ⟨false, 0⟩] : AMem)) else (Option.bind (g.call 51 [.agg #[.int .i64 a, .int .i64 b], .int .i64 4, .int .i64 (IntKind.wrap .i64 ((IntKind.wrap .i64 (3 * c)) + d)), .int .i64 (IntKind.wrap .i64 (3 * a))] []) fun e => (Option.bind (intOf? .i64 (some e.1)) fun f => some (.int .i64 f, ([AObj.cells [.int .i64 a, .int .i64 b] ⟨false, 0⟩] : AMem)))))))) := by kernel_rfl
theorem E29 (f : Rec) (b a c : Int) : enterF f a29 [.agg #[.int .i64 b, .int .i64 a], .int .i64 c] [] = (Option.bind (f.call 48 [.agg #[.int .i64 b, .int .i64 a]] []) fun d => (Option.bind (boolOf? (some d.1)) fun e => (if (!e) = true then some (.int .i64 (-1), ([AObj.cells [.int .i64 b, .int .i64 a] ⟨false, 0⟩] : AMem)) else (if (decide (c < 0)) = true then some (.int .i64 (-1), ([AObj.cells [.int .i64 b, .int .i64 a] ⟨false, 0⟩] : AMem)) else (if (decide (c ≥ b)) = true then some (.int .i64 (-1), ([AObj.cells [.int .i64 b, .int .i64 a] ⟨false, 0⟩] : AMem)) else (if a = 0 then none else some (.int .i64 (Int.tmod c a), ([AObj.cells [.int .i64 b, .int .i64 a] ⟨false, 0⟩] : AMem)))))))) := by kernel_rfl
theorem E4 (c : Rec) (a b : Int) : enterF c a4 [.agg #[.int .i64 a, .int .i64 b]] [] = (if (decide (a ≥ 1)) = true then (if (decide (a ≤ 65536)) = true then (if (decide (b ≥ 1)) = true then some (.bool (decide (b ≤ 256)), ([AObj.cells [.int .i64 a, .int .i64 b] ⟨false, 0⟩] : AMem)) else some (.bool false, ([AObj.cells [.int .i64 a, .int .i64 b] ⟨false, 0⟩] : AMem))) else some (.bool false, ([AObj.cells [.int .i64 a, .int .i64 b] ⟨false, 0⟩] : AMem))) else some (.bool false, ([AObj.cells [.int .i64 a, .int .i64 b] ⟨false, 0⟩] : AMem))) := by kernel_rfl
def Rt (p s : Int) : Prop := 1 ≤ p ∧ p ≤ 65536 ∧ 1 ≤ s ∧ s ≤ 256
instance (p s : Int) : Decidable (Rt p s) := by unfold Rt; infer_instance
abbrev lay (p s : Int) : Value := .agg #[.int .i64 p, .int .i64 s]
theorem right_spec (p s : Int) : ∃ M, LL.call 48 [lay p s] [] = some (.bool (decide (Rt p s)), M) := by
  rw [L_call48, E48]
  unfold Rt
  by_cases h1 : 1 ≤ p <;> by_cases h2 : p ≤ 65536 <;> by_cases h3 : 1 ≤ s <;> by_cases h4 : s ≤ 256 <;> simp [h1, h2, h3, h4]
theorem right12_spec (p s : Int) : ∃ M, LL.call 4 [lay p s] [] = some (.bool (decide (Rt p s)), M) := by
  rw [L_call4, E4]
  unfold Rt
  by_cases h1 : 1 ≤ p <;> by_cases h2 : p ≤ 65536 <;> by_cases h3 : 1 ≤ s <;> by_cases h4 : s ≤ 256 <;> simp [h1, h2, h3, h4] <;> omega
def beginsZ (s kind : Int) : Int := if kind = 1 then 0 else if kind = 2 then 1 else if kind = 3 then 1 + s else 1 + 2 * s
theorem begins_spec (p s k : Int) (hs : 0 ≤ s ∧ s ≤ 256) : ∃ M, LL.call 49 [lay p s, .int .i64 k] [] = some (.int .i64 (beginsZ s k), M) := by
  rw [L_call49, E49]
  unfold beginsZ
  by_cases h1 : k = 1 <;> by_cases h2 : k = 2 <;> by_cases h3 : k = 3 <;> simp [h1, h2, h3, P49_25_eq, w64 (n := 1 + s) (by omega), w64 (n := 2 * s) (by omega), w64 (n := 1 + 2 * s) (by omega)]
theorem size_spec (p s : Int) : ∃ M, LL.call 24 [lay p s] [] = some (.int .i64 (if Rt p s then 1 + 2 * s + 3 * p else 0), M) := by
  rw [L_call24, E24]
  obtain ⟨M1, h1⟩ := right_spec p s
  simp only [h1, Option.bind_some, boolOf_bool]
  by_cases hr : Rt p s
  · obtain ⟨M2, h2⟩ := begins_spec p s 4 (by unfold Rt at hr; omega)
    unfold Rt at hr
    simp [hr, h2, beginsZ, w64 (n := 3 * p) (by omega), w64 (n := 1 + 2 * s + 3 * p) (by omega), Rt]
  · simp [hr]
theorem place_spec (p s k a n : Int) (ha : a < 1000000) : ∃ M, LL.call 51 [lay p s, .int .i64 k, .int .i64 a, .int .i64 n] [] = some (.int .i64 (if Rt p s ∧ 0 ≤ a ∧ a < n then beginsZ s k + a else -1), M) := by
  rw [L_call51, E51]
  obtain ⟨M1, h1⟩ := right_spec p s
  simp only [h1, Option.bind_some, boolOf_bool]
  by_cases hr : Rt p s
  · obtain ⟨M2, h2⟩ := begins_spec p s k (by unfold Rt at hr; omega)
    by_cases h3 : 0 ≤ a
    · by_cases h4 : a < n
      · have hb : 0 ≤ beginsZ s k ∧ beginsZ s k ≤ 513 := by unfold beginsZ; unfold Rt at hr; repeat' split
                                                            all_goals omega
        simp [hr, h2, h3, h4, show ¬ a < 0 by omega, show ¬ n ≤ a by omega, w64 (n := beginsZ s k + a) (by omega)]
      · simp [hr, h3, h4, show ¬ a < 0 by omega, show n ≤ a by omega]
    · simp [hr, h3, show a < 0 by omega]
  · simp [hr]
theorem place_spec' (p s k a n : Int) (hn : n ≤ 1000000) : ∃ M, LL.call 51 [lay p s, .int .i64 k, .int .i64 a, .int .i64 n] [] = some (.int .i64 (if Rt p s ∧ 0 ≤ a ∧ a < n then beginsZ s k + a else -1), M) := by
  by_cases ha : a < 1000000
  · exact place_spec p s k a n ha
  · rw [L_call51, E51]
    obtain ⟨M1, h1⟩ := right_spec p s
    simp only [h1, Option.bind_some, boolOf_bool]
    by_cases hr : Rt p s
    · simp [hr, show ¬ a < 0 by omega, show n ≤ a by omega, show ¬ a < n by omega]
    · simp [hr]
theorem begun_spec (p s a : Int) (hs : s ≤ 256 ∨ ¬ Rt p s) : ∃ M, LL.call 80 [lay p s, .int .i64 a] [] = some (.int .i64 (if Rt p s ∧ 0 ≤ a ∧ a < s then 1 + a else -1), M) := by
  rw [L_call80, E80]
  have : ∃ M, LL.call 51 [lay p s, .int .i64 2, .int .i64 a, .int .i64 s] [] = some (.int .i64 (if Rt p s ∧ 0 ≤ a ∧ a < s then 1 + a else -1), M) := by
    by_cases hr : Rt p s
    · exact place_spec' p s 2 a s (by unfold Rt at hr; omega)
    · rw [L_call51, E51]
      obtain ⟨M1, h1⟩ := right_spec p s
      simp [h1, hr]
  obtain ⟨M, h⟩ := this
  simp [h]
theorem ended_spec (p s a : Int) : ∃ M, LL.call 87 [lay p s, .int .i64 a] [] = some (.int .i64 (if Rt p s ∧ 0 ≤ a ∧ a < s then 1 + s + a else -1), M) := by
  rw [L_call87, E87]
  have : ∃ M, LL.call 51 [lay p s, .int .i64 3, .int .i64 a, .int .i64 s] [] = some (.int .i64 (if Rt p s ∧ 0 ≤ a ∧ a < s then 1 + s + a else -1), M) := by
    by_cases hr : Rt p s
    · exact place_spec' p s 3 a s (by unfold Rt at hr; omega)
    · rw [L_call51, E51]
      obtain ⟨M1, h1⟩ := right_spec p s
      simp [h1, hr]
  obtain ⟨M, h⟩ := this
  simp [h]
theorem stripe_spec (p s a : Int) : ∃ M, LL.call 29 [lay p s, .int .i64 a] [] = some (.int .i64 (if Rt p s ∧ 0 ≤ a ∧ a < p then Int.tmod a s else -1), M) := by
  rw [L_call29, E29]
  obtain ⟨M1, h1⟩ := right_spec p s
  simp only [h1, Option.bind_some, boolOf_bool]
  by_cases hr : Rt p s
  · have hs : ¬ s = 0 := by unfold Rt at hr; omega
    by_cases h3 : 0 ≤ a
    · by_cases h4 : a < p
      · simp [hr, h3, h4, hs, show ¬ a < 0 by omega, show ¬ p ≤ a by omega]
      · simp [hr, h3, h4, show ¬ a < 0 by omega, show p ≤ a by omega]
    · simp [hr, h3, show a < 0 by omega]
  · simp [hr]
theorem place_not (p s k a n : Int) (hr : ¬ Rt p s) : ∃ M, LL.call 51 [lay p s, .int .i64 k, .int .i64 a, .int .i64 n] [] = some (.int .i64 (-1), M) := by
  rw [L_call51, E51]
  obtain ⟨M1, h1⟩ := right_spec p s
  simp [h1, hr]
theorem channel_spec (p s a c : Int) : ∃ M, LL.call 26 [lay p s, .int .i64 a, .int .i64 c] [] = some (.int .i64 (if Rt p s ∧ (0 ≤ a ∧ a < p) ∧ (0 ≤ c ∧ c < 3) then 1 + 2 * s + (3 * a + c) else -1), M) := by
  rw [L_call26, E26]
  by_cases h1 : 0 ≤ c
  · by_cases h2 : c < 3
    · by_cases h3 : 0 ≤ a
      · by_cases h4 : a < p
        · by_cases hr : Rt p s
          · have hp : p ≤ 65536 := hr.2.1
            obtain ⟨M, h⟩ := place_spec' p s 4 (3 * a + c) (3 * p) (by omega)
            have e1 : 3 * a + c < 3 * p := by omega
            have e2 : 0 ≤ 3 * a + c := by omega
            simp [hr, h1, h2, h3, h4, show ¬ c < 0 by omega, show ¬ 3 ≤ c by omega, show ¬ a < 0 by omega, show ¬ p ≤ a by omega, w64 (n := 3 * a) (by omega), w64 (n := 3 * a + c) (by omega), w64 (n := 3 * p) (by omega), h, e1, e2, beginsZ]
          · obtain ⟨M, h⟩ := place_not p s 4 (IntKind.wrap .i64 (IntKind.wrap .i64 (3 * a) + c)) (IntKind.wrap .i64 (3 * p)) hr
            simp [hr, h, show ¬ c < 0 by omega, show ¬ 3 ≤ c by omega, show ¬ a < 0 by omega, show ¬ p ≤ a by omega]
        · simp [h1, h2, h3, h4, show ¬ c < 0 by omega, show ¬ 3 ≤ c by omega, show ¬ a < 0 by omega, show p ≤ a by omega]
      · simp [h1, h2, h3, show ¬ c < 0 by omega, show ¬ 3 ≤ c by omega, show a < 0 by omega]
    · simp [h1, h2, show ¬ c < 0 by omega, show 3 ≤ c by omega]
  · simp [h1, show c < 0 by omega]
end Go.Proofs.YtbclhglmdhojdaaGreat
namespace Go.Ax
open Go Go.RowKit Go.ChangeShapes Go.WideShapes
inductive Ty
  | int (k : IntKind)
  | bool
  | slice (e : List Ty)
def fieldsOk (P : Program) (r : TypeId → Option (List Ty)) : List Field → Nat → Option (List Ty)
  | [], _ => some []
  | f :: fs, o => if f.offset = o then (r f.type).bind fun l => if P.cellsOf f.type = l.length then (fieldsOk P r fs (o + l.length)).map (l ++ ·) else none else none
def tyCells (P : Program) : Nat → TypeId → Option (List Ty)
  | 0, _ => none
  | d + 1, t => match P.underlying t with
    | some (.int k) => some [.int k]
    | some .bool => some [.bool]
    | some (.slice e) => (tyCells P d e).bind fun l => if P.cellsOf e = l.length ∧ 0 < l.length ∧ 0 < P.bytesOf e then some [.slice l] else none
    | some (.struct fs) => (fieldsOk P (tyCells P d) fs.toList 0).bind fun l => if P.cellsOf t = l.length then some l else none
    | some (.array n e) => (tyCells P d e).bind fun l => if P.cellsOf e = l.length ∧ P.cellsOf t = n * l.length then some (List.replicate n l).flatten else none
    | _ => none
mutual
def Holds (A : AMem) : Ty → Value → Prop
  | .int k, v => ∃ n, v = .int k n ∧ (Lit.int k n).wf = true
  | .bool, v => ∃ b, v = .bool b
  | .slice e, v => ∃ p n, v = .slice p n 0 ∧ n ≤ reachBytes ∧ (0 < n → ∃ a cs, p = some ⟨a, 0, none⟩ ∧ Rd A a cs ∧ cs.length = n * e.length ∧ ∀ i, i < n → HoldsL A e ((cs.drop (i * e.length)).take e.length))
def HoldsL (A : AMem) : List Ty → List Value → Prop
  | [], vs => vs = []
  | t :: ts, vs => ∃ v r, vs = v :: r ∧ Holds A t v ∧ HoldsL A ts r
end
theorem rd_app {A : AMem} {a : Nat} {cs : List Value} (h : Rd A a cs) (B : AMem) : Rd (A ++ B) a cs := let ⟨m, h⟩ := h; ⟨m, get_app_lt h⟩
mutual
theorem Holds.app {A : AMem} (B : AMem) : ∀ (t : Ty) {v : Value}, Holds A t v → Holds (A ++ B) t v
  | .int k, v, h => by simpa only [Holds] using h
  | .bool, v, h => by simpa only [Holds] using h
  | .slice e, v, h => by
    simp only [Holds] at h ⊢
    obtain ⟨p, n, rfl, hx, hn⟩ := h
    refine ⟨p, n, rfl, hx, fun h0 => ?_⟩
    obtain ⟨a, cs, e1, e2, e3, e4⟩ := hn h0
    exact ⟨a, cs, e1, rd_app e2 B, e3, fun i hi => HoldsL.app B e (e4 i hi)⟩
theorem HoldsL.app {A : AMem} (B : AMem) : ∀ (ts : List Ty) {vs : List Value}, HoldsL A ts vs → HoldsL (A ++ B) ts vs
  | [], vs, h => by simpa only [HoldsL] using h
  | t :: ts, vs, h => by
    simp only [HoldsL] at h ⊢
    obtain ⟨v, r, rfl, h1, h2⟩ := h
    exact ⟨v, r, rfl, Holds.app B t h1, HoldsL.app B ts h2⟩
end
theorem HoldsL.length {A : AMem} : ∀ {ts : List Ty} {vs : List Value}, HoldsL A ts vs → vs.length = ts.length
  | [], vs, h => by simp only [HoldsL] at h; simp [h]
  | t :: ts, vs, h => by
    simp only [HoldsL] at h
    obtain ⟨v, r, rfl, _, h2⟩ := h
    simp [HoldsL.length h2]
theorem HoldsL.cat {A : AMem} : ∀ {ts us : List Ty} {vs ws : List Value}, HoldsL A ts vs → HoldsL A us ws → HoldsL A (ts ++ us) (vs ++ ws)
  | [], us, vs, ws, h, k => by simp only [HoldsL] at h; simpa [h] using k
  | t :: ts, us, vs, ws, h, k => by
    simp only [HoldsL] at h
    obtain ⟨v, r, rfl, h1, h2⟩ := h
    rw [List.cons_append]
    simp only [HoldsL]
    exact ⟨v, r ++ ws, rfl, h1, HoldsL.cat h2 k⟩
def AllRo (A : AMem) : Prop := ∀ a, ¬ Wrt A a
section
variable {P : Program} {W : World} {base : Nat}
theorem le_app {A B : AMem} {ι ι' : Iota} (h : ∀ a b o, ι a = some (b, o) → ι' a = some (b, o)) (h2 : ∀ a, a < A.length → ι a = none → ι' a = none) : Le A ι W (A ++ B) ι' W :=
  ⟨fun a ha => get_app_lt ha, fun a b o hi => .inr (h a b o hi), fun b => Nat.le_refl _, fun a cs m hA => .inr ⟨cs, m, get_app_lt hA, Nat.le_refl _, fun _ => rfl⟩, by simp, h2⟩
theorem allRo_app {A : AMem} {x : AObj} (h : AllRo A) (hx : (∃ cs v, x = .cells cs ⟨true, v⟩) ∨ x = .dead) : AllRo (A ++ [x]) := by
  intro a hw
  by_cases ha : a < A.length
  · refine h a ?_
    rcases hw with ⟨cs, m, e, hr⟩ | ⟨l, e⟩ | ⟨k, kv, es, e⟩
    · exact .inl ⟨cs, m, by rwa [List.getElem?_append_left ha] at e, hr⟩
    · exact .inr (.inl ⟨l, by rwa [List.getElem?_append_left ha] at e⟩)
    · exact .inr (.inr ⟨k, kv, es, by rwa [List.getElem?_append_left ha] at e⟩)
  · have key : ∀ y, (A ++ [x])[a]? = some y → y = x := fun y e => by
      rw [List.getElem?_append_right (by omega)] at e
      have := (ges.1 e).1
      simp at this
      rw [show a - A.length = 0 by omega] at e
      simpa using e.symm
    rcases hw with ⟨cs, m, e, hr⟩ | ⟨l, e⟩ | ⟨k, kv, es, e⟩
    · have := key _ e
      rcases hx with ⟨cs', v, rfl⟩ | rfl
      · cases this; cases hr
      · cases this
    · have := key _ e
      rcases hx with ⟨cs', v, rfl⟩ | rfl <;> cases this
    · have := key _ e
      rcases hx with ⟨cs', v, rfl⟩ | rfl <;> cases this
theorem sim_dead {A : AMem} {ι : Iota} (hs : Sim P base A ι W) : Sim P base (A ++ [.dead]) ι W := by
  have hle : Le A ι W (A ++ [.dead]) ι W := le_app (fun _ _ _ h => h) fun _ _ h => h
  have old : ∀ {a b o x}, ι a = some (b, o) → (A ++ [AObj.dead])[a]? = some x → A[a]? = some x := fun hi hx => by
    rwa [List.getElem?_append_left (hs.lt hi)] at hx
  refine ⟨fun a b o hi => ?_, fun a b o cs m hi hA => ?_, fun a b o l hi hA => ?_, fun a b o cs m hi hA => hs.leaf a b o cs m hi (old hi hA), fun a b o k kv es hi hA => hs.map a b o k kv es hi (old hi hA), fun a a' b o o' hne hi hi' hw => ?_⟩
  · obtain ⟨x, hx, hr⟩ := hs.has a b o hi
    exact ⟨x, get_app_lt hx, hr⟩
  · obtain ⟨cs', t, fr, q1, q2, q3, q4⟩ := hs.cells a b o cs m hi (old hi hA)
    exact ⟨cs', t, fr, q1, q2, fun j v e => let ⟨v', w1, w2⟩ := q3 j v e; ⟨v', w1, w2.mono hle⟩, q4⟩
  · obtain ⟨l', q1, q2, q3⟩ := hs.loop a b o l hi (old hi hA)
    exact ⟨l', q1, q2.mono hle, q3⟩
  · refine get_app_lt (hs.sep a a' b o o' hne hi hi' ?_)
    rcases hw with ⟨cs, m, e, hr⟩ | ⟨l, e⟩ | ⟨k, kv, es, e⟩
    · exact .inl ⟨cs, m, old hi e, hr⟩
    · exact .inr (.inl ⟨l, old hi e⟩)
    · exact .inr (.inr ⟨k, kv, es, old hi e⟩)
theorem sim_ro {A : AMem} {ι : Iota} (hs : Sim P base A ι W) (hro : AllRo A) {b o : Nat} {cs : List Value} {cs' : Array Value} {t : TypeId} {fr : Nat × Nat}
    (hb : W.heap[b]? = some (.cells cs' t fr)) (hl : o + cs.length ≤ cs'.size) (hr : ∀ (j : Nat) (v : Value), cs[j]? = some v → ∃ v', cs'[o + j]? = some v' ∧ VRel A ι W v v') (hlf : cs.all leafV = true) :
    Sim P base (A ++ [.cells cs ⟨true, 0⟩]) (upd ι A.length b o) W := by
  have hup : ∀ a b' o', ι a = some (b', o') → upd ι A.length b o a = some (b', o') := fun a b' o' hi => by
    rw [upd_other _ _ _ _ (Nat.ne_of_lt (hs.lt hi))]; exact hi
  have hle : Le A ι W (A ++ [.cells cs ⟨true, 0⟩]) (upd ι A.length b o) W := le_app hup fun a ha hn => by rw [upd_other _ _ _ _ (Nat.ne_of_lt ha)]; exact hn
  have split : ∀ {a b' o'}, upd ι A.length b o a = some (b', o') → (a = A.length ∧ b' = b ∧ o' = o) ∨ (a < A.length ∧ ι a = some (b', o')) := fun {a b' o'} hi => by
    by_cases e : a = A.length
    · subst e; rw [upd_same] at hi; cases hi; exact .inl ⟨rfl, rfl, rfl⟩
    · rw [upd_other _ _ _ _ e] at hi; exact .inr ⟨hs.lt hi, hi⟩
  have old : ∀ {a x}, a < A.length → (A ++ [AObj.cells cs ⟨true, 0⟩])[a]? = some x → A[a]? = some x := fun hi hx => by
    rwa [List.getElem?_append_left hi] at hx
  have hnew : (A ++ [AObj.cells cs ⟨true, 0⟩])[A.length]? = some (.cells cs ⟨true, 0⟩) := get_new _ _
  refine ⟨fun a b' o' hi => ?_, fun a b' o' cs1 m hi hA => ?_, fun a b' o' l hi hA => ?_, fun a b' o' cs1 m hi hA => ?_, fun a b' o' k kv es hi hA => ?_, fun a a' b' o' o'' hne hi hi' hw => ?_⟩
  · rcases split hi with ⟨rfl, rfl, rfl⟩ | ⟨hlt, hi⟩
    · exact ⟨_, hnew, by simp⟩
    · obtain ⟨x, hx, hr⟩ := hs.has a b' o' hi
      exact ⟨x, get_app_lt hx, hr⟩
  · rcases split hi with ⟨rfl, rfl, rfl⟩ | ⟨hlt, hi⟩
    · rw [hnew] at hA; cases hA
      exact ⟨cs', t, fr, hb, hl, fun j v e => let ⟨v', w1, w2⟩ := hr j v e; ⟨v', w1, w2.mono hle⟩, fun h => by cases h⟩
    · obtain ⟨cs2, t, fr, q1, q2, q3, q4⟩ := hs.cells a b' o' cs1 m hi (old hlt hA)
      exact ⟨cs2, t, fr, q1, q2, fun j v e => let ⟨v', w1, w2⟩ := q3 j v e; ⟨v', w1, w2.mono hle⟩, q4⟩
  · rcases split hi with ⟨rfl, rfl, rfl⟩ | ⟨hlt, hi⟩
    · rw [hnew] at hA; cases hA
    · exact absurd (.inr (.inl ⟨l, old hlt hA⟩)) (hro a)
  · rcases split hi with ⟨rfl, rfl, rfl⟩ | ⟨hlt, hi⟩
    · rw [hnew] at hA; cases hA; exact hlf
    · exact hs.leaf a b' o' cs1 m hi (old hlt hA)
  · rcases split hi with ⟨rfl, rfl, rfl⟩ | ⟨hlt, hi⟩
    · rw [hnew] at hA; cases hA
    · exact absurd (.inr (.inr ⟨k, kv, es, old hlt hA⟩)) (hro a)
  · exact absurd hw (allRo_app hro (.inl ⟨_, _, rfl⟩) a)
structure Got (P : Program) (W : World) (base : Nat) (A : AMem) (ι : Iota) (B : AMem) (ι' : Iota) : Prop where
  sim : Sim P base (A ++ B) ι' W
  ro : AllRo (A ++ B)
  iota : ∀ a b o, ι a = some (b, o) → ι' a = some (b, o)
  none : ∀ a, a < A.length → ι a = none → ι' a = none
theorem Got.le {A : AMem} {ι : Iota} {B : AMem} {ι' : Iota} (h : Got P W base A ι B ι') : Le A ι W (A ++ B) ι' W := le_app h.iota h.none
structure GotL (W : World) (A : AMem) (ι : Iota) (ts : List Ty) (cs0 cs : List Value) : Prop where
  rel : LRel A ι W cs0 cs
  holds : HoldsL A ts cs0
  leaf : cs0.all leafV = true
theorem GotL.mono {A : AMem} {ι : Iota} {B : AMem} {ι' : Iota} {ts : List Ty} {cs0 cs : List Value} (h : GotL W A ι ts cs0 cs) (g : Got P W base A ι B ι') : GotL W (A ++ B) ι' ts cs0 cs :=
  ⟨h.rel.mono g.le, h.holds.app B, h.leaf⟩
theorem GotL.cat {A : AMem} {ι : Iota} {ts us : List Ty} {cs0 cs ds0 ds : List Value} (h : GotL W A ι ts cs0 cs) (k : GotL W A ι us ds0 ds) : GotL W A ι (ts ++ us) (cs0 ++ ds0) (cs ++ ds) :=
  ⟨h.rel.append k.rel, h.holds.cat k.holds, by rw [List.all_append, h.leaf, k.leaf]; rfl⟩
variable {H : Type} {enc : TypeId × Value → H} {sp : Nat → Bool} {held : Bool}
theorem weightsAll_mem {e : TypeId} : ∀ {l : List (DataW H)} {i : Nat} {d : DataW H}, l[i]? = some d → ∀ n ∈ d.weights P e, n ∈ DataW.weightsAll P e l
  | a :: l, 0, d, h, n, hn => by
    simp only [List.getElem?_cons_zero, Option.some.injEq] at h
    subst h
    simp only [DataW.weightsAll, List.mem_append]
    exact .inl hn
  | a :: l, i + 1, d, h, n, hn => by
    simp only [List.getElem?_cons_succ] at h
    simp only [DataW.weightsAll, List.mem_append]
    exact .inr (weightsAll_mem h n hn)
  | [], _, _, h, _, _ => by simp at h
def ImpOk (P : Program) (W : World) (base : Nat) (enc : TypeId × Value → H) (sp : Nat → Bool) (held : Bool) (t : TypeId) (ts : List Ty) : Prop :=
  ∀ (fuel : Nat) (cs : List Value) (x : DataW H × List MemPlace), DataW.trod enc P W 0 sp held fuel t cs = some x → Sz P t x.1 → ∀ (A : AMem) (ι : Iota), Sim P base A ι W → AllRo A →
    ∃ B ι' cs0, Got P W base A ι B ι' ∧ GotL W (A ++ B) ι' ts cs0 cs
theorem imp_parts : ∀ (l : List (List Ty × List Value)),
    (∀ p ∈ l, ∃ t, ImpOk P W base enc sp held t p.1 ∧ ∃ fuel x, DataW.trod enc P W 0 sp held fuel t p.2 = some x ∧ Sz P t x.1) → ∀ (A : AMem) (ι : Iota), Sim P base A ι W → AllRo A →
    ∃ (B : AMem) (ι' : Iota) (css0 : List (List Value)), Got P W base A ι B ι' ∧ css0.length = l.length ∧ ∀ (i : Nat) p c, l[i]? = some p → css0[i]? = some c → GotL W (A ++ B) ι' p.1 c p.2
  | [], _, A, ι, hs, hro => ⟨[], ι, [], ⟨by simpa using hs, by simpa using hro, fun _ _ _ h => h, fun _ _ h => h⟩, rfl, fun i p c h => by simp at h⟩
  | p :: l, h, A, ι, hs, hro => by
    obtain ⟨t, hi, fuel, x, hx, hz⟩ := h p (by simp)
    obtain ⟨B, ι1, c0, g, gl⟩ := hi fuel p.2 x hx hz A ι hs hro
    obtain ⟨B2, ι2, css0, g2, hl, hg⟩ := imp_parts l (fun q hq => h q (by simp [hq])) (A ++ B) ι1 g.sim g.ro
    refine ⟨B ++ B2, ι2, c0 :: css0, ⟨by rw [← List.append_assoc]; exact g2.sim, by rw [← List.append_assoc]; exact g2.ro, fun a b o e => g2.iota a b o (g.iota a b o e), fun a ha hn => g2.none a (by rw [List.length_append]; omega) (g.none a ha hn)⟩, by simp [hl], fun i q c e1 e2 => ?_⟩
    rw [← List.append_assoc]
    cases i with
    | zero => simp at e1 e2; subst e1; subst e2; exact gl.mono g2
    | succ i => simp at e1 e2; exact hg i q c e1 e2
theorem gotL_flatten {A : AMem} {ι : Iota} : ∀ (l : List (List Ty × List Value)) (css0 : List (List Value)), css0.length = l.length →
    (∀ (i : Nat) p c, l[i]? = some p → css0[i]? = some c → GotL W A ι p.1 c p.2) → GotL W A ι (l.map (·.1)).flatten css0.flatten (l.map (·.2)).flatten
  | [], [], _, _ => ⟨LRel.nil, by simp [HoldsL], rfl⟩
  | [], c :: css0, h, _ => by simp at h
  | p :: l, [], h, _ => by simp at h
  | p :: l, c :: css0, h, hg => by
    have h1 := hg 0 p c rfl rfl
    have h2 := gotL_flatten l css0 (by simpa using h) fun i q d e1 e2 => hg (i + 1) q d (by simpa using e1) (by simpa using e2)
    simpa using h1.cat h2
theorem part_of {α : Type} {k : Nat} : ∀ (css : List (List α)), (∀ c ∈ css, c.length = k) → ∀ (i : Nat) c, css[i]? = some c → (css.flatten.drop (i * k)).take k = c
  | [], _, i, c, h => by simp at h
  | d :: css, hk, i, c, h => by
    have hd := hk d (by simp)
    cases i with
    | zero =>
      simp at h; subst h
      simp [← hd]
    | succ i =>
      have := part_of css (fun c hc => hk c (by simp [hc])) i c (by simpa using h)
      rw [List.flatten_cons, show (i + 1) * k = d.length + i * k by rw [hd, Nat.succ_mul, Nat.add_comm], List.drop_append]
      rw [List.drop_eq_nil_of_le (by omega), List.nil_append, Nat.add_sub_cancel_left]
      exact this
theorem flat_length {α : Type} {k : Nat} : ∀ (css : List (List α)), (∀ c ∈ css, c.length = k) → css.flatten.length = css.length * k
  | [], _ => by simp
  | d :: css, hk => by
    rw [List.flatten_cons, List.length_append, flat_length css (fun c hc => hk c (by simp [hc])), hk d (by simp), List.length_cons, Nat.succ_mul, Nat.add_comm]
theorem imp_fields {n : Nat} {r : TypeId → Option (List Ty)} (ih : ∀ t ts, r t = some ts → ImpOk P W base enc sp held t ts) (cs : List Value) :
    ∀ (fs : List Field) (o : Nat) (ts : List Ty), fieldsOk P r fs o = some ts → o + ts.length ≤ cs.length →
    (∀ f ∈ fs, ∃ x, DataW.trod enc P W 0 sp held n f.type ((cs.drop f.offset).take (P.cellsOf f.type)) = some x ∧ Sz P f.type x.1) →
    ∃ l : List (List Ty × List Value), (l.map (·.1)).flatten = ts ∧ (l.map (·.2)).flatten = (cs.drop o).take ts.length ∧ ∀ p ∈ l, ∃ t, ImpOk P W base enc sp held t p.1 ∧ ∃ fuel x, DataW.trod enc P W 0 sp held fuel t p.2 = some x ∧ Sz P t x.1
  | [], o, ts, h, _, _ => by
    simp only [fieldsOk, Option.some.injEq] at h
    subst h
    exact ⟨[], rfl, by simp, fun p hp => by simp at hp⟩
  | f :: fs, o, ts, h, ho, hx => by
    unfold fieldsOk at h
    split at h
    · rename_i hfo
      obtain ⟨l0, h1, h2⟩ := bsi.1 h
      split at h2
      · rename_i hc
        obtain ⟨us, h3, h4⟩ := msi.1 h2
        subst h4
        rw [List.length_append] at ho
        obtain ⟨l, e1, e2, e3⟩ := imp_fields ih cs fs (o + l0.length) us h3 (by omega) fun f hf => hx f (by simp [hf])
        obtain ⟨x, hx0, hz0⟩ := hx f (by simp)
        rw [hfo, hc] at hx0
        refine ⟨(l0, (cs.drop o).take l0.length) :: l, by simp [e1], ?_, fun p hp => ?_⟩
        · rw [List.map_cons, List.flatten_cons, e2, List.length_append, List.take_add, List.drop_drop]
        · rcases List.mem_cons.1 hp with rfl | hp
          · exact ⟨f.type, ih _ _ h1, n, x, hx0, hz0⟩
          · exact e3 p hp
      · cases h2
    · cases h
theorem one_leaf {A : AMem} {ι : Iota} {t : Ty} {v v' : Value} (h : VRel A ι W v v') (hh : Holds A t v) (hl : leafV v = true) : GotL W A ι [t] [v] [v'] :=
  ⟨LRel.cons h LRel.nil, by simp only [HoldsL]; exact ⟨v, [], rfl, hh, rfl⟩, by simp [hl]⟩
theorem got_refl {A : AMem} {ι : Iota} (hs : Sim P base A ι W) (hro : AllRo A) : Got P W base A ι [] ι := ⟨by simpa using hs, by simpa using hro, fun _ _ _ h => h, fun _ _ h => h⟩
theorem imp_ok : ∀ (d : Nat) (t : TypeId) (ts : List Ty), tyCells P d t = some ts → ImpOk P W base enc sp held t ts := by
  intro d
  induction d with
  | zero => intro t ts h; simp [tyCells] at h
  | succ d ih =>
    intro t ts h fuel cs x hx hz A ι hs hro
    unfold tyCells at h
    split at h
    · rename_i k ht
      cases h
      obtain ⟨n, rfl, rfl, hw⟩ := DataW.trod_int ht hx
      exact ⟨[], ι, [.int k n], got_refl hs hro, one_leaf (.flat _ rfl) (by simp only [Holds]; exact ⟨n, rfl, hw⟩) rfl⟩
    · rename_i ht
      cases h
      obtain ⟨b, rfl, rfl⟩ := DataW.trod_bool ht hx
      exact ⟨[], ι, [.bool b], got_refl hs hro, one_leaf (.flat _ rfl) (by simp only [Holds]; exact ⟨b, rfl⟩) rfl⟩
    · rename_i e ht
      obtain ⟨l, hl, h2⟩ := bsi.1 h
      split at h2
      · rename_i hc
        cases h2
        rcases DataW.trod_slice ht hx with ⟨rfl, _⟩ | ⟨a, len, cap, elems, rest, n, _, rfl, hxd, hb, hlc, hcm, hlen, hel, _, _⟩
        · exact ⟨[], ι, [.slice none 0 0], got_refl hs hro, one_leaf (.flat _ rfl) (by simp only [Holds]; exact ⟨none, 0, rfl, Nat.zero_le _, fun h => by omega⟩) rfl⟩
        · have hz' : ∀ k ∈ (elems.length + rest.length) * P.bytesOf e :: (DataW.weightsAll P e (elems.map (·.1)) ++ DataW.weightsAll P e (rest.map (·.1))), k ≤ reachBytes := by
            have := hz
            unfold Sz at this
            rw [hxd] at this
            simpa [DataW.weights, ht] using this
          have hlr : len ≤ reachBytes := by
            have h1 := hz' _ List.mem_cons_self
            have h2 : (elems.length + rest.length) * 1 ≤ (elems.length + rest.length) * P.bytesOf e := Nat.mul_le_mul_left _ hc.2.2
            omega
          by_cases h0 : len = 0
          · subst h0
            refine ⟨[.dead], ι, [.slice (some ⟨A.length, 0, none⟩) 0 0], ⟨sim_dead hs, allRo_app hro (.inr rfl), fun _ _ _ h => h, fun _ _ h => h⟩, one_leaf (.sliceDead _ _ _ _ _ (get_new _ _) rfl (Nat.zero_le _)) ?_ rfl⟩
            simp only [Holds]
            exact ⟨_, 0, rfl, Nat.zero_le _, fun h => by omega⟩
          ·
            have each : ∀ i, i < len → ∃ ci x, W.cells? 0 (a.add (i * P.cellsOf e)) (P.cellsOf e) = some ci ∧ DataW.trod enc P W 0 sp held n e ci = some x ∧ Sz P e x.1 := fun i hi => by
              have := hel i hi
              rw [gee (by omega)] at this
              obtain ⟨ci, q1, q2⟩ := bsi.1 this
              refine ⟨ci, _, q1, q2, fun k hk => hz' k ?_⟩
              simp only [List.mem_cons, List.mem_append]
              exact .inr (.inl (weightsAll_mem (i := i) (d := (elems[i]'(by omega)).1) (by simp [gee (show i < elems.length by omega)]) k hk))
            let ce : Nat → List Value := fun i => (W.cells? 0 (a.add (i * P.cellsOf e)) (P.cellsOf e)).getD []
            have hce : ∀ i, i < len → W.cells? 0 (a.add (i * P.cellsOf e)) (P.cellsOf e) = some (ce i) ∧ ∃ x, DataW.trod enc P W 0 sp held n e (ce i) = some x ∧ Sz P e x.1 := fun i hi => by
              obtain ⟨ci, x, q1, q2⟩ := each i hi
              simp only [ce, q1, Option.getD_some]
              exact ⟨trivial, x, q2⟩
            have hcl : ∀ i, i < len → (ce i).length = l.length := fun i hi => by
              rw [← hc.1]; exact (World.cells?_some (hce i hi).1).2.1
            have hsp : a.spot = none := by
              have h1 := (World.cells?_some (hce 0 (by omega)).1).2.2 0 (by omega)
              rw [gee (by rw [hcl 0 (by omega)]; omega)] at h1
              have := World.cell?_spot h1
              simpa [Addr.add] using this
            obtain ⟨ab, ao, asp⟩ := a
            simp only at hsp; subst hsp
            let L : List (List Ty × List Value) := (List.range len).map fun i => (l, ce i)
            obtain ⟨B, ι1, css0, g, hcl0, hg⟩ := imp_parts L (fun p hp => by
              obtain ⟨i, hi, rfl⟩ := List.mem_map.1 hp
              exact ⟨e, ih e l hl, n, (hce i (by simpa using hi)).2⟩) A ι hs hro
            have hLl : L.length = len := by simp [L]
            have hLi : ∀ i, i < len → L[i]? = some (l, ce i) := fun i hi => by simp [L, hi]
            have hci : ∀ i c, css0[i]? = some c → i < len ∧ GotL W (A ++ B) ι1 l c (ce i) := fun i c h => by
              have hi : i < len := by have := (ges.1 h).1; omega
              exact ⟨hi, hg i _ c (hLi i hi) h⟩
            have hkl : ∀ c ∈ css0, c.length = l.length := fun c hc => by
              obtain ⟨i, hi⟩ := List.getElem?_of_mem hc
              exact (hci i c hi).2.holds.length
            have hfl : css0.flatten.length = len * l.length := by rw [flat_length css0 hkl, hcl0, hLl]
            have hflat := gotL_flatten L css0 hcl0 hg
            have hreal : ∀ j v, (L.map (·.2)).flatten[j]? = some v → W.cell? ⟨ab, ao + j, none⟩ = some v := fun j v hv => by
              have hk : ∀ c ∈ L.map (·.2), c.length = l.length := fun c hc' => by
                obtain ⟨p, hp, rfl⟩ := List.mem_map.1 hc'
                obtain ⟨i, hi, rfl⟩ := List.mem_map.1 hp
                exact hcl i (by simpa using hi)
              have hll := flat_length _ hk
              rw [List.length_map, hLl] at hll
              have hj : j < len * l.length := by rw [← hll]; exact (ges.1 hv).1
              have hd : j / l.length < len := (Nat.div_lt_iff_lt_mul hc.2.1).2 hj
              have hp := part_of _ hk (j / l.length) (ce (j / l.length)) (by simp [hLi _ hd])
              have hjm : j / l.length * l.length + j % l.length = j := by rw [Nat.mul_comm]; exact Nat.div_add_mod j l.length
              have hmod := Nat.mod_lt j hc.2.1
              have hv2 : (ce (j / l.length))[j % l.length]? = some v := by
                rw [← hp, List.getElem?_take_of_lt hmod, List.getElem?_drop, hjm]; exact hv
              have h3 := (World.cells?_some (hce _ hd).1).2.2 (j % l.length) (by rw [hc.1]; exact hmod)
              rw [hv2, hc.1, addr_add, addr_add, Nat.add_assoc, hjm] at h3
              exact h3
            have hpos : 0 < len * l.length := Nat.mul_pos (by omega) hc.2.1
            have hrl : (L.map (·.2)).flatten.length = len * l.length := by rw [← hfl]; exact hflat.rel.1.symm
            obtain ⟨cs', tt, fr, hbk, hbl⟩ : ∃ cs' tt fr, W.heap[ab]? = some (.cells cs' tt fr) ∧ ∀ j v, (L.map (·.2)).flatten[j]? = some v → cs'[ao + j]? = some v := by
              have h1 := hreal 0 _ (gee (by omega))
              unfold World.cell? at h1
              split at h1
              · rename_i cs' tt fr hbk
                refine ⟨cs', tt, fr, hbk, fun j v hv => ?_⟩
                have := hreal j v hv
                simpa [World.cell?, hbk] using this
              · cases h1
            have hsz : ao + css0.flatten.length ≤ cs'.size := by
              rw [hfl]
              have := hbl (len * l.length - 1) _ (gee (by omega))
              have := (Array.getElem?_eq_some_iff.1 this).1
              omega
            have hs2 := sim_ro g.sim g.ro hbk hsz (fun j v hv => by
              obtain ⟨v', q1, q2⟩ := hflat.rel.get hv
              exact ⟨v', hbl j v' q1, q2⟩) hflat.leaf
            have hg2 : Got P W base (A ++ B) ι1 [.cells css0.flatten ⟨true, 0⟩] (upd ι1 (A ++ B).length ab ao) :=
              ⟨hs2, allRo_app g.ro (.inl ⟨_, _, rfl⟩), fun a b o e => by rw [upd_other _ _ _ _ (Nat.ne_of_lt (g.sim.lt e))]; exact e, fun a ha hn => by rw [upd_other _ _ _ _ (Nat.ne_of_lt ha)]; exact hn⟩
            refine ⟨B ++ [.cells css0.flatten ⟨true, 0⟩], upd ι1 (A ++ B).length ab ao, [.slice (some ⟨(A ++ B).length, 0, none⟩) len 0],
              ⟨by rw [← List.append_assoc]; exact hg2.sim, by rw [← List.append_assoc]; exact hg2.ro, fun a b o e => hg2.iota a b o (g.iota a b o e), fun a ha hn => hg2.none a (by rw [List.length_append]; omega) (g.none a ha hn)⟩, one_leaf ?_ ?_ rfl⟩
            · exact VRel.slice ⟨(A ++ B).length, 0, none⟩ len 0 cap ab ao (upd_same _ _ _) rfl hlc (fun h => absurd rfl h)
            · simp only [Holds]
              refine ⟨_, len, rfl, hlr, fun _ => ⟨(A ++ B).length, css0.flatten, rfl, ⟨⟨true, 0⟩, by rw [← List.append_assoc]; exact get_new _ _⟩, hfl, fun i hi => ?_⟩⟩
              have hic : css0[i]? = some (css0[i]'(by omega)) := gee (by omega)
              rw [part_of css0 hkl i _ hic, ← List.append_assoc]
              exact ((hci i _ hic).2.holds).app _
      · cases h2
    · rename_i fs ht
      obtain ⟨l, hl, h2⟩ := bsi.1 h
      split at h2
      · rename_i hc
        cases h2
        obtain ⟨xs, n, _, hxd, hcl, hxl, hf⟩ := DataW.trod_struct ht hx
        obtain ⟨L, e1, e2, e3⟩ := imp_fields (n := n) ih cs fs.toList 0 ts hl (by omega) fun f hf' => by
          obtain ⟨i, hi⟩ := List.getElem?_of_mem hf'
          have hi' : fs[i]? = some f := by simpa using hi
          have := hf i f hi'
          have hlt := (Array.getElem?_eq_some_iff.1 hi').1
          rw [gee (by omega)] at this
          refine ⟨_, this, fun k hk => hz k ?_⟩
          rw [hxd]
          simp only [DataW.weights, ht]
          exact DataW.weights_mem_each (j := i) (t := f.type) (by rw [List.getElem?_map, hi]; rfl) (by rw [List.getElem?_map, gee (by omega)]; rfl) k hk
        obtain ⟨B, ι1, css0, g, hcl0, hg⟩ := imp_parts L e3 A ι hs hro
        have := gotL_flatten L css0 hcl0 hg
        rw [e1, e2] at this
        refine ⟨B, ι1, css0.flatten, g, ?_⟩
        rwa [List.drop_zero, List.take_of_length_le (by omega)] at this
      · cases h2
    · rename_i n e ht
      obtain ⟨l, hl, h2⟩ := bsi.1 h
      split at h2
      · rename_i hc
        cases h2
        obtain ⟨xs, m, _, hxd, hcl, hxl, hf⟩ := DataW.trod_array ht hx
        let L : List (List Ty × List Value) := (List.range n).map fun i => (l, (cs.drop (i * l.length)).take l.length)
        obtain ⟨B, ι1, css0, g, hcl0, hg⟩ := imp_parts L (fun p hp => by
          obtain ⟨i, hi, rfl⟩ := List.mem_map.1 hp
          have hin : i < n := by simpa using hi
          have := hf i hin
          rw [gee (by omega), hc.1] at this
          refine ⟨e, ih e l hl, m, _, this, fun k hk => hz k ?_⟩
          rw [hxd]
          simp only [DataW.weights, ht]
          exact weightsAll_mem (i := i) (by rw [List.getElem?_map, gee (by omega)]; rfl) k hk) A ι hs hro
        have hfl := gotL_flatten L css0 hcl0 hg
        have e1 : (L.map (·.1)).flatten = (List.replicate n l).flatten := by
          simp only [L, List.map_map]
          congr 1
          exact List.ext_getElem (by simp) fun i h1 h2 => by simp
        have e2 : ∀ k, k ≤ n → ((List.range k).map fun i => (cs.drop (i * l.length)).take l.length).flatten = cs.take (k * l.length) := by
          intro k
          induction k with
          | zero => intro _; simp
          | succ k ihk =>
            intro hk
            rw [List.range_succ, List.map_append, List.flatten_append, ihk (by omega), Nat.succ_mul, List.take_add]
            simp
        have e3 : (L.map (·.2)).flatten = cs := by
          have := e2 n (Nat.le_refl _)
          rw [← hc.2, ← hcl, List.take_length] at this
          rw [← this]
          simp only [L, List.map_map]
          rfl
        rw [e1, e3] at hfl
        exact ⟨B, ι1, css0.flatten, g, hfl⟩
      · cases h2
    · cases h
def aggB (P : Program) (t : TypeId) : Bool := isAggT P t
def topTy (P : Program) (t : TypeId) : Option (Bool × List Ty) := (tyCells P 8 t).bind fun l => if aggB P t || l.length == 1 then some (aggB P t, l) else none
def HoldsV (A : AMem) (T : Bool × List Ty) (v : Value) : Prop :=
  if T.1 then ∃ cs, v = .agg cs ∧ HoldsL A T.2 cs.toList else HoldsL A T.2 [v]
def HoldsA (A : AMem) : List (Bool × List Ty) → List Value → Prop
  | [], vs => vs = []
  | T :: Ts, vs => ∃ v r, vs = v :: r ∧ HoldsV A T v ∧ HoldsA A Ts r
theorem HoldsV.app {A : AMem} (B : AMem) {T : Bool × List Ty} {v : Value} (h : HoldsV A T v) : HoldsV (A ++ B) T v := by
  unfold HoldsV at h ⊢
  split at h
  · rename_i ht; rw [if_pos ht]
    obtain ⟨cs, e, h⟩ := h
    exact ⟨cs, e, h.app B⟩
  · rename_i ht; rw [if_neg ht]
    exact HoldsL.app B _ h
theorem imp_one {t : TypeId} {T : Bool × List Ty} (hT : topTy P t = some T) {b0 : Nat} {r : Reach} {v : Value} (hval : Value.okWide P W r b0 t v) {d : DataW H} {ps : List MemPlace}
    (h : DataW.Trod enc P W 0 sp held t v d ps) (hz : Sz P t d) (A : AMem) (ι : Iota) (hs : Sim P base A ι W) (hro : AllRo A) :
    ∃ B ι' v0, Got P W base A ι B ι' ∧ VRel (A ++ B) ι' W v0 v ∧ HoldsV (A ++ B) T v0 := by
  obtain ⟨fuel, hx⟩ := h
  unfold topTy at hT
  obtain ⟨l, hl, hT⟩ := bsi.1 hT
  split at hT
  · rename_i hc
    cases hT
    obtain ⟨B, ι', cs0, g, gl⟩ := imp_ok 8 t l hl fuel _ _ hx hz A ι hs hro
    rw [cells_toList] at gl
    cases hag : aggB P t with
    | true =>
      have : ∃ cs, v = .agg cs := by
        unfold aggB isAggT at hag
        unfold Value.okWide at hval
        split at hag <;> rename_i hu
        · simp only [hu] at hval; obtain ⟨cs, e, _⟩ := hval; exact ⟨cs, e⟩
        · simp only [hu] at hval; obtain ⟨cs, e, _⟩ := hval; exact ⟨cs, e⟩
        · cases hag
      obtain ⟨cs, rfl⟩ := this
      refine ⟨B, ι', .agg cs0.toArray, g, agg_of_LRel gl.rel, ?_⟩
      unfold HoldsV
      rw [if_pos rfl]
      exact ⟨_, rfl, by simpa using gl.holds⟩
    | false =>
      rw [hag, Bool.false_or] at hc
      have hl1 : cs0.length = 1 := by rw [gl.holds.length]; simpa using hc
      obtain ⟨v0, rfl⟩ : ∃ v0, cs0 = [v0] := by
        cases cs0 with
        | nil => simp at hl1
        | cons a r => cases r with
          | nil => exact ⟨a, rfl⟩
          | cons b r => simp at hl1
      have hv : cellsL v = [v] := by
        cases v with
        | agg cs =>
          exfalso
          cases fuel with
          | zero => simp [DataW.trod] at hx
          | succ n =>
            unfold tyCells at hl
            unfold aggB isAggT at hag
            unfold Value.okWide at hval
            split at hl <;> rename_i hu
            · simp [hu, Cell.okWide, Cell.ok] at hval
            · simp [hu, Cell.okWide, Cell.ok] at hval
            · simp [hu, Cell.okWide, Cell.ok] at hval
            · simp [hu] at hag
            · simp [hu] at hag
            · cases hl
        | _ => rfl
      rw [hv] at gl
      refine ⟨B, ι', v0, g, gl.rel.2 0 _ _ rfl rfl, ?_⟩
      unfold HoldsV
      rw [if_neg (by simp)]
      exact gl.holds
  · cases hT
theorem imp_all : ∀ (ts : List TypeId) (Ts : List (Bool × List Ty)), ts.mapM (topTy P) = some Ts → ∀ {b0 : Nat} {r : Reach} {vs : List Value}, (∀ (j : Nat) t v, ts[j]? = some t → vs[j]? = some v → Value.okWide P W r b0 t v) →
    ∀ {ds : List (DataW H)} {ps : List MemPlace}, DataW.TrodAll enc P W 0 sp held ts vs ds ps → (∀ (j : Nat) t d, ts[j]? = some t → ds[j]? = some d → Sz P t d) → ∀ (A : AMem) (ι : Iota), Sim P base A ι W → AllRo A →
    ∃ B ι' vs0, Got P W base A ι B ι' ∧ LRel (A ++ B) ι' W vs0 vs ∧ HoldsA (A ++ B) Ts vs0
  | [], Ts, hT, b0, r, vs, hval, ds, ps, h, hz, A, ι, hs, hro => by
    simp at hT; subst hT
    obtain ⟨rfl, rfl, rfl⟩ := trodAll_nil h
    exact ⟨[], ι, [], got_refl hs hro, LRel.nil, rfl⟩
  | t :: ts, Ts, hT, b0, r, vs, hval, ds, ps, h, hz, A, ι, hs, hro => by
    obtain ⟨v, vs', d, ds', p, q, rfl, rfl, rfl, h1, h2⟩ := trodAll_cons h
    rw [List.mapM_cons] at hT
    simp only [Option.bind_eq_bind, Option.pure_def] at hT
    obtain ⟨T, e1, e2⟩ := bsi.1 hT
    obtain ⟨Ts', e3, e4⟩ := bsi.1 e2
    cases e4
    obtain ⟨B, ι1, v0, g, hr, hh⟩ := imp_one e1 (hval 0 t v rfl rfl) h1 (hz 0 t d rfl rfl) A ι hs hro
    obtain ⟨B2, ι2, vs0, g2, hr2, hh2⟩ := imp_all ts Ts' e3 (fun j t v a b => hval (j + 1) t v (by simpa using a) (by simpa using b)) h2 (fun j t d a b => hz (j + 1) t d (by simpa using a) (by simpa using b)) (A ++ B) ι1 g.sim g.ro
    refine ⟨B ++ B2, ι2, v0 :: vs0, ⟨by rw [← List.append_assoc]; exact g2.sim, by rw [← List.append_assoc]; exact g2.ro, fun a b o e => g2.iota a b o (g.iota a b o e), fun a ha hn => g2.none a (by rw [List.length_append]; omega) (g.none a ha hn)⟩, ?_, ?_⟩
    · rw [← List.append_assoc]; exact LRel.cons (hr.mono g2.le) hr2
    · rw [← List.append_assoc]; exact ⟨v0, vs0, rfl, hh.app B2, hh2⟩
theorem sim_nil : Sim P base [] (fun _ => none) W := ⟨fun _ _ _ h => (by cases h), fun _ _ _ _ _ h => (by cases h), fun _ _ _ _ h => (by cases h), fun _ _ _ _ _ h => (by cases h), fun _ _ _ _ _ _ h => (by cases h), fun _ _ _ _ _ _ h => (by cases h)⟩
theorem allRo_nil : AllRo [] := fun a h => by rcases h with ⟨_, _, h, _⟩ | ⟨_, h⟩ | ⟨_, _, _, h⟩ <;> simp at h
end
theorem lifted_of_args {H : Type} {enc : TypeId × Value → H} {C : Checked} {os : Os} {f : FuncId} {fn : Func} {s : ChangeSpec} {E : Env} (own : ownKnob C.prog.godebug = none) (started : os.Started)
    (noInit : C.prog.inits.idxOf? f = none) (hfn : C.prog.funcs[f]? = some fn)
    (witness : ∃ (w : World) (tape : Tape) (i : Input), w.os = os ∧ (w.forCall tape i).Shaped C.prog ∧ i.vars = [] ∧ Input.okWide C.prog (w.forCall tape i) .any w.heap.size f i ∧
      s.pre6 enc C.prog fn [] false (w.forCall tape i).memory i.args ∧ ({} : Assume).holds C.prog (lone (Frame.enter C.prog f i.args .normal) [] (w.forCall tape i)))
    (hl : laidOutB C.prog = true) (hpar : fn.params.toList.all (fun t => C.prog.readableRec t && decide (t < C.prog.types.size)) = true) {tb : TypeId} (hres : fn.resultTypes = #[tb]) (hb : C.prog.underlying tb = some .bool)
    (hvars : s.vars = []) (hfnn : ∀ (ds : List (DataW H)), ds.length = fn.params.size → s.fn H ds = { results := [.lit (.bool true)], args := ds })
    (hE : EnvOk C.prog E) (hm : C.prog.follows .mixedOrders = true) {Ts : List (Bool × List Ty)} (hTs : fn.params.toList.mapM (topTy C.prog) = some Ts)
    (main : ∀ (A : AMem) (vs : List Value), HoldsA A Ts vs → ∃ A', (lim E).call f vs A = some (.bool true, A')) :
    ReturnsInHanded {} C os f .any (s.pre6 enc C.prog fn [] false) (s.post enc C.prog fn false true false false) := by
  refine lifted_of_lim own started noInit hfn witness hl hpar hres hb hvars hfnn hE hm fun W base args ds p hval hA hz => ?_
  obtain ⟨B, ι, vs, g, hr, hh⟩ := imp_all (P := C.prog) (W := W) (base := W.heap.size) fn.params.toList Ts hTs (fun j t v a b => hval j t v (by simpa using a) (by simpa using b)) hA hz [] _ sim_nil allRo_nil
  obtain ⟨A', h⟩ := main _ vs hh
  exact ⟨_, ι, vs, A', g.sim, hr, h⟩
end Go.Ax
namespace Go.Ax
open Go
def blk : Option Addr → List Nat
  | none => []
  | some a => [a.block]
@[simp] theorem blk_none : blk none = [] := rfl
@[simp] theorem blk_some (a o : Nat) (s : Option Nat) : blk (some ⟨a, o, s⟩) = [a] := rfl
def Slc (M : AMem) (esz : Nat) (p : Option Addr) (n c : Nat) (cs : List Value) : Prop :=
  cs.length = n * esz ∧ ((p = none ∧ n = 0) ∨ ∃ a, p = some ⟨a, 0, none⟩ ∧ c = esz ∧ Cells M a cs)
theorem Slc.same {M M' : AMem} {S : List Nat} {esz n c : Nat} {p : Option Addr} {cs : List Value} (h : Slc M esz p n c cs) (k : Same M M' S) (hb : ∀ b ∈ blk p, b ∉ S) : Slc M' esz p n c cs := by
  obtain ⟨h1, h2⟩ := h
  refine ⟨h1, ?_⟩
  rcases h2 with h2 | ⟨a, rfl, rfl, h2⟩
  · exact .inl h2
  · exact .inr ⟨a, rfl, rfl, h2.same k (hb a (by simp))⟩
theorem Slc.nil (M : AMem) (esz c : Nat) : Slc M esz none 0 c [] := ⟨by simp, .inl ⟨rfl, rfl⟩⟩
theorem Slc.lt {M : AMem} {esz n c : Nat} {p : Option Addr} {cs : List Value} (h : Slc M esz p n c cs) : ∀ b ∈ blk p, b < M.length := by
  rcases h.2 with ⟨rfl, _⟩ | ⟨a, rfl, _, h2⟩
  · simp
  · intro b hb; simp at hb; subst hb; exact h2.lt
theorem Slc.of {M : AMem} {esz n a : Nat} {cs : List Value} (h : Cells M a cs) (hl : cs.length = n * esz) : Slc M esz (some ⟨a, 0, none⟩) n esz cs := ⟨hl, .inr ⟨a, rfl, rfl, h⟩⟩
theorem Slc.pos {M : AMem} {esz n c : Nat} {p : Option Addr} {cs : List Value} (h : Slc M esz p n c cs) (hn : 0 < n) : ∃ a, p = some ⟨a, 0, none⟩ ∧ Cells M a cs := by
  rcases h.2 with ⟨_, h0⟩ | ⟨a, h1, _, h2⟩
  · omega
  · exact ⟨a, h1, h2⟩
theorem append_own {M : AMem} {esz bytes n c m : Nat} {p : Option Addr} {cs new : List Value} (h : Slc M esz p n c cs) (hnew : new.length = m * esz) (hm : m ≠ 0)
    (hb : n + m ≤ (281474976710656 / (bytes + 1) - 1024) / 2) :
    ∃ M', (∀ K, appendK esz bytes p n c m new M K = K (some ⟨M.length, 0, none⟩) (n + m) esz M') ∧ Slc M' esz (some ⟨M.length, 0, none⟩) (n + m) esz (cs ++ new) ∧ Same M M' (blk p) ∧ M'.length = M.length + 1 := by
  obtain ⟨h1, h2⟩ := h
  rcases h2 with ⟨rfl, rfl⟩ | ⟨a, rfl, rfl, v, h2⟩
  · have : cs = [] := by simpa using h1
    subst this
    refine ⟨M ++ [.cells new ⟨false, 0⟩], fun K => ?_, .of (by simpa using cells_new M new 0) (by simpa using hnew), (same_app M _).mono (by simp), by simp⟩
    rw [appendK_nil _ _ _ _ _ _ _ hm hb, Nat.zero_add]
  · refine ⟨M.set a .dead ++ [.cells (cs ++ new) ⟨false, 0⟩], fun K => ?_, .of ?_ ?_, ?_, by simp⟩
    · rw [appendK_some _ _ _ _ _ _ _ _ _ _ _ hm hb h2 rfl (by omega), List.drop_zero, ← h1, List.take_length]
    · have := cells_new (M.set a .dead) (cs ++ new) 0
      simpa using this
    · rw [List.length_append, h1, hnew, Nat.add_mul]
    · exact ((same_set M a .dead).trans (same_app _ _)).mono (by simp)
theorem rowOf_new (M : AMem) (esz n : Nat) (cs : List Value) (v c : Nat) (hl : cs.length = n * esz) :
    rowOf (M ++ [AObj.cells cs ⟨false, v⟩]) esz (.slice (some ⟨List.length M, 0, none⟩) n c) = some cs := by
  rw [rowOf_some ⟨_, get_new _ _⟩ (by omega), List.drop_zero, ← hl, List.take_length]
theorem append_row {M : AMem} {esz bytes n c m : Nat} {p : Option Addr} {cs new : List Value} {v : Nat} (h : Slc M esz p n c cs) (hnew : new.length = m * esz) (hm : m ≠ 0)
    (hb : n + m ≤ (281474976710656 / (bytes + 1) - 1024) / 2) :
    ∃ M', (∀ K, appendK esz bytes p n c m new (M ++ [AObj.cells new ⟨false, v⟩]) K = K (some ⟨M.length + 1, 0, none⟩) (n + m) esz M') ∧
      Slc M' esz (some ⟨M.length + 1, 0, none⟩) (n + m) esz (cs ++ new) ∧ Same M M' (blk p) ∧ M'.length = M.length + 2 := by
  have hs := same_app M [AObj.cells new ⟨false, v⟩]
  obtain ⟨M', h1, h2, h3, h4⟩ := append_own (M := M ++ [AObj.cells new ⟨false, v⟩]) (bytes := bytes) (h.same hs (by simp)) hnew hm hb
  simp only [List.length_append, List.length_cons, List.length_nil, Nat.zero_add] at h1 h2 h4
  exact ⟨M', h1, h2, (hs.trans h3).mono (by simp), by omega⟩
structure Grn (M : AMem) (p : Option Addr) (M' : AMem) (p' : Option Addr) : Prop where
  same : Same M M' (blk p)
  new : ∀ b ∈ blk p', b ∈ blk p ∨ M.length ≤ b
theorem grn_row {M : AMem} {esz bytes n c m : Nat} {p : Option Addr} {cs new : List Value} {v : Nat} (h : Slc M esz p n c cs) (hnew : new.length = m * esz) (hm : m ≠ 0)
    (hb : n + m ≤ (281474976710656 / (bytes + 1) - 1024) / 2) :
    ∃ M', (∀ K, appendK esz bytes p n c m new (M ++ [AObj.cells new ⟨false, v⟩]) K = K (some ⟨M.length + 1, 0, none⟩) (n + m) esz M') ∧
      Slc M' esz (some ⟨M.length + 1, 0, none⟩) (n + m) esz (cs ++ new) ∧ Grn M p M' (some ⟨M.length + 1, 0, none⟩) := by
  obtain ⟨M', h1, h2, h3, h4⟩ := append_row (bytes := bytes) (v := v) h hnew hm hb
  exact ⟨M', h1, h2, h3, fun b hb => .inr (by simp at hb; omega)⟩
theorem flat_get {α : Type} {k : Nat} {enc : α → List Value} (hk : ∀ x, (enc x).length = k) : ∀ (l : List α) (i j : Nat) (x : α), l[i]? = some x → j < k → (l.flatMap enc)[i * k + j]? = (enc x)[j]?
  | [], i, j, x, h, _ => by simp at h
  | y :: l, i, j, x, h, hj => by
    rw [List.flatMap_cons]
    cases i with
    | zero =>
      simp at h; subst h
      rw [List.getElem?_append_left (by rw [hk]; omega)]; simp
    | succ i =>
      rw [List.getElem?_append_right (by rw [hk, Nat.succ_mul]; omega), hk, show (i + 1) * k + j - k = i * k + j by rw [Nat.succ_mul]; omega]
      exact flat_get hk l i j x (by simpa using h) hj
theorem flatMap_length {α : Type} {k : Nat} {enc : α → List Value} (hk : ∀ x, (enc x).length = k) (l : List α) : (l.flatMap enc).length = l.length * k := by
  induction l with
  | nil => simp
  | cons x l ih => rw [List.flatMap_cons, List.length_append, ih, hk, List.length_cons, Nat.succ_mul, Nat.add_comm]
theorem wrapu64 (n : Int) : IntKind.wrap .u64 n = n % 18446744073709551616 := by simp [IntKind.wrap, IntKind.bits, IntKind.signed]
theorem wu64 {n : Int} (h : 0 ≤ n ∧ n < 18446744073709551616) : IntKind.wrap .u64 n = n := by rw [wrapu64]; omega
theorem ofN (n : Nat) : Int.ofNat n = (n : Int) := rfl
theorem ver_same {M M' : AMem} {S : List Nat} (h : Same M M' S) {b : Nat} (hb : b < M.length) (hn : b ∉ S) : AMem.ver M b = AMem.ver M' b := by
  unfold AMem.ver; rw [h.get b hb hn]
def RdI (M : AMem) (k : IntKind) (p : Option Addr) (n : Nat) (l : List Int) : Prop := l.length = n ∧ (0 < n → ∃ a, p = some ⟨a, 0, none⟩ ∧ Rd M a (ints k l))
theorem holdsL_cons {A : AMem} {t : Ty} {ts : List Ty} {vs : List Value} (h : HoldsL A (t :: ts) vs) : ∃ v r, vs = v :: r ∧ Holds A t v ∧ HoldsL A ts r := by simpa only [HoldsL] using h
theorem parts_list {T : Type} (enc : T → List Value) (ok : T → Prop) {k : Nat} (hk : 0 < k) : ∀ (n : Nat) (cs : List Value), cs.length = n * k → (∀ i, i < n → ∃ x, ok x ∧ (cs.drop (i * k)).take k = enc x) →
    ∃ l : List T, l.length = n ∧ cs = l.flatMap enc ∧ ∀ x ∈ l, ok x
  | 0, cs, hl, _ => ⟨[], rfl, by simpa using hl, by simp⟩
  | n + 1, cs, hl, h => by
    obtain ⟨x, hx, e⟩ := h 0 (by omega)
    rw [Nat.zero_mul, List.drop_zero] at e
    obtain ⟨l, h1, h2, h3⟩ := parts_list enc ok hk n (cs.drop k) (by rw [List.length_drop, hl, Nat.succ_mul]; omega) fun i hi => by
      obtain ⟨y, hy, e⟩ := h (i + 1) (by omega)
      refine ⟨y, hy, ?_⟩
      rw [List.drop_drop, ← e, Nat.succ_mul, Nat.add_comm]
    refine ⟨x :: l, by simp [h1], ?_, fun y hy => ?_⟩
    · rw [List.flatMap_cons, ← h2, ← e, List.take_append_drop]
    · rcases List.mem_cons.1 hy with rfl | hy
      · exact hx
      · exact h3 y hy
def RdL {T : Type} (M : AMem) (enc : T → List Value) (p : Option Addr) (n : Nat) (l : List T) : Prop := l.length = n ∧ (0 < n → ∃ a, p = some ⟨a, 0, none⟩ ∧ Rd M a (l.flatMap enc))
theorem RdL.same {T : Type} {M M' : AMem} {enc : T → List Value} {S : List Nat} {p : Option Addr} {n : Nat} {l : List T} (h : RdL M enc p n l) (hs : Same M M' S) (hb : ∀ x ∈ blk p, x ∉ S) : RdL M' enc p n l :=
  ⟨h.1, fun hn => let ⟨a, e, hc⟩ := h.2 hn; ⟨a, e, hc.same hs (hb a (by rw [e]; simp))⟩⟩
theorem RdL.lt {T : Type} {M : AMem} {enc : T → List Value} {p : Option Addr} {n : Nat} {l : List T} (h : RdL M enc p n l) (hn : 0 < n) : ∀ b ∈ blk p, b < M.length := by
  obtain ⟨a, rfl, hc⟩ := h.2 hn
  intro b hb; simp at hb; subst hb; exact hc.lt
theorem holds_listZ {T : Type} {A : AMem} {e : List Ty} {v : Value} (enc : T → List Value) (ok : T → Prop) (he : 0 < e.length) (h : Holds A (.slice e) v) (hd : ∀ cs, HoldsL A e cs → ∃ x, ok x ∧ cs = enc x) :
    ∃ p l, v = .slice p l.length 0 ∧ RdL A enc p l.length l ∧ (∀ x ∈ l, ok x) ∧ l.length ≤ reachBytes := by
  simp only [Holds] at h
  obtain ⟨p, n, rfl, hm, hn⟩ := h
  by_cases h0 : n = 0
  · subst h0
    exact ⟨p, [], rfl, ⟨rfl, fun h => by simp at h⟩, by simp, Nat.zero_le _⟩
  · obtain ⟨a, cs, rfl, h1, h2, h3⟩ := hn (by omega)
    obtain ⟨l, k1, k2, k3⟩ := parts_list enc ok he n cs h2 fun i hi => hd _ (h3 i hi)
    subst k1
    exact ⟨_, l, rfl, ⟨rfl, fun _ => ⟨a, rfl, by rw [← k2]; exact h1⟩⟩, k3, hm⟩
theorem flatMap_ints (k : IntKind) : ∀ l : List Int, l.flatMap (fun x => [Value.int k x]) = ints k l
  | [] => rfl
  | x :: l => by rw [List.flatMap_cons, flatMap_ints k l]; rfl
theorem RdL.rdI {M : AMem} {k : IntKind} {p : Option Addr} {n : Nat} {l : List Int} (h : RdL M (fun x => [.int k x]) p n l) : RdI M k p n l := by
  refine ⟨h.1, fun hn => ?_⟩
  obtain ⟨a, e, hc⟩ := h.2 hn
  exact ⟨a, e, by rwa [flatMap_ints] at hc⟩
theorem wrL_mid : ∀ (cs zs pre post : List Value), cs.length = zs.length → wrL (pre ++ zs ++ post) pre.length cs = pre ++ cs ++ post
  | [], [], pre, post, _ => by simp [wrL]
  | [], _ :: _, _, _, h => by simp at h
  | _ :: _, [], _, _, h => by simp at h
  | v :: cs, z :: zs, pre, post, h => by
    have := wrL_mid cs zs (pre ++ [v]) post (by simpa using h)
    simp only [List.length_append, List.length_singleton] at this
    simp only [wrL]
    rw [show (pre ++ z :: zs ++ post).set pre.length v = (pre ++ [v]) ++ zs ++ post by simp, this]
    simp
theorem bX {α β : Type} {x : Option α} {r : α} (h : x = some r) (f : α → Option β) : Option.bind x f = f r := by rw [h]; rfl
theorem bLI {β : Type} {M : AMem} {b o : Nat} {k : IntKind} {v : Int} (h : AMem.ld M b o = some (.int k v)) (f : Int → Option β) : Option.bind (intOf? k (AMem.ld M b o)) f = f v := by rw [h, intOf_int]; rfl
theorem bLS {β : Type} {M : AMem} {b o : Nat} {p : Option Addr} {n c : Nat} (h : AMem.ld M b o = some (.slice p n c)) (f : Option Addr × Nat × Nat → Option β) : Option.bind (sliceOf? (AMem.ld M b o)) f = f (p, n, c) := by rw [h, sliceOf_slice]; rfl
theorem bLB {β : Type} {M : AMem} {b o : Nat} {v : Bool} (h : AMem.ld M b o = some (.bool v)) (f : Bool → Option β) : Option.bind (boolOf? (AMem.ld M b o)) f = f v := by rw [h, boolOf_bool]; rfl
theorem bLP {β : Type} {M : AMem} {b o : Nat} {v : Option Addr} (h : AMem.ld M b o = some (.pointer v)) (f : Option Addr → Option β) : Option.bind (ptrOf? (AMem.ld M b o)) f = f v := by rw [h, ptrOf_ptr]; rfl
theorem bI {β : Type} (k : IntKind) (v : Int) (f : Int → Option β) : Option.bind (intOf? k (some (.int k v))) f = f v := by rw [intOf_int]; rfl
theorem bS {β : Type} (p : Option Addr) (n c : Nat) (f : Option Addr × Nat × Nat → Option β) : Option.bind (sliceOf? (some (.slice p n c))) f = f (p, n, c) := by rw [sliceOf_slice]; rfl
theorem bB {β : Type} (v : Bool) (f : Bool → Option β) : Option.bind (boolOf? (some (.bool v))) f = f v := by rw [boolOf_bool]; rfl
theorem bP {β : Type} (v : Option Addr) (f : Option Addr → Option β) : Option.bind (ptrOf? (some (.pointer v))) f = f v := by rw [ptrOf_ptr]; rfl
theorem bA3 {β : Type} (a b c : Value) (f : List Value → Option β) : Option.bind (aggOf? 3 (.agg #[a, b, c])) f = f [a, b, c] := rfl
theorem bA4 {β : Type} (a b c d : Value) (f : List Value → Option β) : Option.bind (aggOf? 4 (.agg #[a, b, c, d])) f = f [a, b, c, d] := rfl
theorem bT2 {β : Type} (a b : Value) (f : List Value → Option β) : Option.bind (tupOf? 2 (.tuple #[a, b])) f = f [a, b] := rfl
theorem bG0 {β : Type} (a : Value) (l : List Value) (f : Value → Option β) : Option.bind ((a :: l)[0]?) f = f a := rfl
theorem bG1 {β : Type} (a b : Value) (l : List Value) (f : Value → Option β) : Option.bind ((a :: b :: l)[1]?) f = f b := rfl
theorem bI0 {β : Type} (k : IntKind) (a : Int) (l : List Value) (f : Int → Option β) : Option.bind (intOf? k ((.int k a :: l)[0]?)) f = f a := bI k a f
theorem bI1 {β : Type} (k : IntKind) (x : Value) (a : Int) (l : List Value) (f : Int → Option β) : Option.bind (intOf? k ((x :: .int k a :: l)[1]?)) f = f a := bI k a f
theorem bI2 {β : Type} (k : IntKind) (x y : Value) (a : Int) (l : List Value) (f : Int → Option β) : Option.bind (intOf? k ((x :: y :: .int k a :: l)[2]?)) f = f a := bI k a f
theorem bS0 {β : Type} (p : Option Addr) (n c : Nat) (l : List Value) (f : Option Addr × Nat × Nat → Option β) : Option.bind (sliceOf? ((.slice p n c :: l)[0]?)) f = f (p, n, c) := bS p n c f
theorem ifT {α : Type} (a b : α) : (if true = true then a else b) = a := rfl
theorem ifF {α : Type} (a b : α) : (if false = true then a else b) = b := rfl
theorem ifNT {α : Type} (a b : α) : (if (!true) = true then a else b) = b := rfl
theorem ifNF {α : Type} (a b : α) : (if (!false) = true then a else b) = a := rfl
theorem ifD {α : Type} {p : Prop} [Decidable p] (h : p) (a b : α) : (if decide p = true then a else b) = a := by rw [decide_eq_true h]; rfl
theorem ifDn {α : Type} {p : Prop} [Decidable p] (h : ¬ p) (a b : α) : (if decide p = true then a else b) = b := by rw [decide_eq_false h]; rfl
def rt (n : Nat) : Nat → Nat → Nat
  | 0, r => r
  | i + 1, r => if (r + 2 ^ i) * (r + 2 ^ i) ≤ n then rt n i (r + 2 ^ i) else rt n i r
end Go.Ax
namespace Go.Proofs.YtbclhglmdhojdaaGreat
open Go Go.Ax
structure En where
  px : Int
  w0 : Int
  w1 : Int
  w2 : Int
def encE (e : En) : List Value := [.int .i64 e.px, .int .u64 e.w0, .int .u64 e.w1, .int .u64 e.w2]
theorem encE_length (e : En) : (encE e).length = 4 := rfl
theorem ent_ld {M : AMem} {a : Nat} {l : List En} (h : Rd M a (l.flatMap encE)) {i : Nat} {x : En} (hi : l[i]? = some x) :
    M.ld a (i * 4) = some (.int .i64 x.px) ∧ M.ld a (i * 4 + 1) = some (.int .u64 x.w0) ∧ M.ld a (i * 4 + 2) = some (.int .u64 x.w1) ∧ M.ld a (i * 4 + 3) = some (.int .u64 x.w2) := by
  have q := fun j hj => flat_get encE_length l i j x hi hj
  refine ⟨?_, ?_, ?_, ?_⟩
  · have := q 0 (by omega); rw [Nat.add_zero] at this; rw [h.ld, this]; rfl
  · rw [h.ld, q 1 (by omega)]; rfl
  · rw [h.ld, q 2 (by omega)]; rfl
  · rw [h.ld, q 3 (by omega)]; rfl
abbrev bp (b : Nat) : Value := .pointer (some ⟨b, 0, none⟩)
def Wt (a b c : Int) : Prop := (0 ≤ a ∧ a ≤ 1099511627776) ∧ (0 ≤ b ∧ b ≤ 1099511627776) ∧ (0 ≤ c ∧ c ≤ 1099511627776)
instance (a b c : Int) : Decidable (Wt a b c) := by unfold Wt; infer_instance
theorem within_spec (a b c m : Int) : ∃ M, LL.call 54 [.agg #[.int .i64 a, .int .i64 b, .int .i64 c], .int .i64 m] [] = some (.bool (decide ((0 ≤ a ∧ a ≤ m) ∧ (0 ≤ b ∧ b ≤ m) ∧ (0 ≤ c ∧ c ≤ m))), M) := by
  rw [L_call54, E54]
  have step : ∀ (i : Nat) (v : Int), i < 3 → ([a, b, c] : List Int)[i]? = some v → ∀ m0 m1 m2, P54_6 LL m a b c (i : Int) m0 m1 m2 = if v < 0 ∨ v > m then some (.bool false, [AObj.cells [.int .i64 m0, .int .i64 m1, .int .i64 m2] ⟨false, 0⟩]) else P54_6 LL m a b c ((i + 1 : Nat) : Int) m0 m1 m2 := fun i v hi hv m0 m1 m2 => by
    have hg : (0 : Int) ≤ (i : Int) ∧ (i : Int) < 3 := by omega
    have hw : IntKind.wrap .i64 ((i : Int) + 1) = ((i + 1 : Nat) : Int) := by rw [w64 (by omega)]; rfl
    have hv' : ([a, b, c] : List Int)[((Int.toNat (i : Int)) * 1)]? = some v := by rw [Int.toNat_natCast, Nat.mul_one]; exact hv
    rw [P54_6_eq LL L_loop, ifD (by omega), if_pos hg, bX hv']
    by_cases c1 : v < 0
    · rw [ifD c1, if_pos (.inl c1)]
    · by_cases c2 : v > m
      · rw [ifDn c1, ifD c2, if_pos (.inr c2)]
      · rw [ifDn c1, ifDn c2, if_neg (by omega), P54_24_eq, hw]
  have s0 := step 0 a (by omega) rfl a b c
  have s1 := step 1 b (by omega) rfl a b c
  have s2 := step 2 c (by omega) rfl a b c
  have s3 : P54_6 LL m a b c ((2 + 1 : Nat) : Int) a b c = some (.bool true, [AObj.cells [.int .i64 a, .int .i64 b, .int .i64 c] ⟨false, 0⟩]) := by
    rw [P54_6_eq LL L_loop, ifDn (by omega), P54_25_eq]
  rw [show (0 : Int) = ((0 : Nat) : Int) from rfl, s0]
  by_cases c0 : a < 0 ∨ a > m
  · rw [if_pos c0, decide_eq_false (by omega)]; exact ⟨_, rfl⟩
  rw [if_neg c0, show ((0 + 1 : Nat) : Int) = ((1 : Nat) : Int) from rfl, s1]
  by_cases c1 : b < 0 ∨ b > m
  · rw [if_pos c1, decide_eq_false (by omega)]; exact ⟨_, rfl⟩
  rw [if_neg c1, show ((1 + 1 : Nat) : Int) = ((2 : Nat) : Int) from rfl, s2]
  by_cases c2 : c < 0 ∨ c > m
  · rw [if_pos c2, decide_eq_false (by omega)]; exact ⟨_, rfl⟩
  rw [if_neg c2, s3, decide_eq_true (by omega)]
  exact ⟨_, rfl⟩
theorem weight_spec (a b c : Int) : ∃ M, LL.call 30 [.agg #[.int .i64 a, .int .i64 b, .int .i64 c]] [] = some (.bool (decide (Wt a b c)), M) := by
  rw [L_call30, E30, L_call53, E53]
  obtain ⟨_, k⟩ := within_spec a b c 1099511627776
  simp only [Option.bind_some, agg3, get0, get1, get2, intOf_int]
  rw [bX k, bB]
  exact ⟨_, rfl⟩
theorem mget_mset (x n v : Int) : ∀ es : List (Int × Int), mget x (mset n v es) = if x = n then some v else mget x es
  | [] => by simp only [mset, mget]
  | e :: r => by
    have ih := mget_mset x n v r
    simp only [mset]
    by_cases c : n = e.1
    · rw [if_pos c]
      simp only [mget]
      by_cases d : x = n
      · rw [if_pos (by rw [d, c]), if_pos d]
      · rw [if_neg (by rw [← c]; exact d), if_neg d, if_neg (by rw [← c]; exact d)]
    · rw [if_neg c]
      simp only [mget]
      by_cases d : x = e.1
      · rw [if_pos d, if_neg (by rw [d]; exact fun h => c h.symm), if_pos d]
      · rw [if_neg d, ih, if_neg d]
theorem mget_mdel (x n : Int) : ∀ es : List (Int × Int), x ≠ n → mget x (mdel n es) = mget x es
  | [], _ => rfl
  | e :: r, h => by
    have ih := mget_mdel x n r h
    simp only [mdel]
    by_cases c : n = e.1
    · rw [if_pos c]
      simp only [mget]
      rw [if_neg (by rw [← c]; exact h)]
    · rw [if_neg c]
      simp only [mget, ih]
theorem mget_none (n : Int) : ∀ es : List (Int × Int), n ∉ es.map (·.1) → mget n es = none
  | [], _ => rfl
  | e :: r, h => by
    simp only [List.map_cons, List.mem_cons, not_or] at h
    simp only [mget, if_neg h.1]
    exact mget_none n r h.2
theorem mget_self (n : Int) : ∀ es : List (Int × Int), (es.map (·.1)).Nodup → mget n (mdel n es) = none
  | [], _ => rfl
  | e :: r, h => by
    simp only [List.map_cons, List.nodup_cons] at h
    simp only [mdel]
    by_cases c : n = e.1
    · rw [if_pos c]; exact mget_none n r (by rw [c]; exact h.1)
    · rw [if_neg c]
      simp only [mget, if_neg c]
      exact mget_self n r h.2
theorem mset_keys (n v : Int) : ∀ es : List (Int × Int), ∀ k, k ∈ (mset n v es).map (·.1) → k = n ∨ k ∈ es.map (·.1)
  | [], k, h => by simp [mset] at h; exact .inl h
  | e :: r, k, h => by
    simp only [mset] at h
    by_cases c : n = e.1
    · rw [if_pos c] at h; exact .inr (by simpa using h)
    · rw [if_neg c] at h
      simp only [List.map_cons, List.mem_cons] at h ⊢
      rcases h with h | h
      · exact .inr (.inl h)
      · rcases mset_keys n v r k h with h | h
        · exact .inl h
        · exact .inr (.inr h)
theorem mset_nodup (n v : Int) : ∀ es : List (Int × Int), (es.map (·.1)).Nodup → ((mset n v es).map (·.1)).Nodup
  | [], _ => by simp [mset]
  | e :: r, h => by
    have h' := h
    simp only [List.map_cons, List.nodup_cons] at h
    simp only [mset]
    by_cases c : n = e.1
    · rw [if_pos c]; simpa using h'
    · rw [if_neg c]
      simp only [List.map_cons, List.nodup_cons]
      refine ⟨fun hm => ?_, mset_nodup n v r h.2⟩
      rcases mset_keys n v r _ hm with e' | e'
      · exact c e'.symm
      · exact h.1 e'
theorem mdel_keys (n : Int) : ∀ es : List (Int × Int), ∀ k, k ∈ (mdel n es).map (·.1) → k ∈ es.map (·.1)
  | [], k, h => by simp [mdel] at h
  | e :: r, k, h => by
    simp only [mdel] at h
    by_cases c : n = e.1
    · rw [if_pos c] at h; exact List.mem_cons_of_mem _ h
    · rw [if_neg c] at h
      simp only [List.map_cons, List.mem_cons] at h ⊢
      rcases h with h | h
      · exact .inl h
      · exact .inr (mdel_keys n r k h)
theorem mdel_nodup (n : Int) : ∀ es : List (Int × Int), (es.map (·.1)).Nodup → ((mdel n es).map (·.1)).Nodup
  | [], _ => by simp [mdel]
  | e :: r, h => by
    simp only [List.map_cons, List.nodup_cons] at h
    simp only [mdel]
    by_cases c : n = e.1
    · rw [if_pos c]; exact h.2
    · rw [if_neg c]
      simp only [List.map_cons, List.nodup_cons]
      exact ⟨fun hm => h.1 (mdel_keys n r _ hm), mdel_nodup n r h.2⟩
def pix (x : Int) : List En → Option Nat
  | [] => none
  | e :: r => if x = e.px then some 0 else (pix x r).map (· + 1)
theorem pix_none {x : Int} : ∀ {es : List En}, pix x es = none ↔ ∀ e ∈ es, x ≠ e.px
  | [] => by simp [pix]
  | e :: r => by
    simp only [pix]
    by_cases c : x = e.px
    · rw [if_pos c]; simp [c]
    · rw [if_neg c]; simp [c, pix_none (es := r)]
theorem pix_some {x : Int} : ∀ {es : List En} {i : Nat}, pix x es = some i → ∃ e, es[i]? = some e ∧ e.px = x
  | [], i, h => by simp [pix] at h
  | e :: r, i, h => by
    simp only [pix] at h
    by_cases c : x = e.px
    · rw [if_pos c] at h; cases h; exact ⟨e, rfl, c.symm⟩
    · rw [if_neg c] at h
      obtain ⟨j, h1, rfl⟩ := msi.1 h
      obtain ⟨e', h2, h3⟩ := pix_some h1
      exact ⟨e', by simpa using h2, h3⟩
theorem pix_app (x : Int) (e : En) : ∀ es : List En, pix x (es ++ [e]) = match pix x es with | some i => some i | none => if x = e.px then some es.length else none
  | [] => by simp [pix]
  | a :: r => by
    have ih := pix_app x e r
    simp only [List.cons_append, pix]
    by_cases c : x = a.px
    · rw [if_pos c, if_pos c]
    · rw [if_neg c, ih, if_neg c]
      cases pix x r with
      | some i => rfl
      | none =>
        simp only [Option.map_none, List.length_cons]
        split <;> rfl
theorem pix_set (x : Int) {e' : En} : ∀ {es : List En} {i : Nat} {e : En}, es[i]? = some e → e'.px = e.px → pix x (es.set i e') = pix x es
  | [], i, e, h, _ => by simp at h
  | a :: r, 0, e, h, he => by
    simp only [List.getElem?_cons_zero, Option.some.injEq] at h
    subst h
    simp only [List.set_cons_zero, pix, he]
  | a :: r, i + 1, e, h, he => by
    simp only [List.getElem?_cons_succ] at h
    simp only [List.set_cons_succ, pix, pix_set x h he]
theorem flat_set1 {α : Type} {k : Nat} {enc : α → List Value} (hk : ∀ x, (enc x).length = k) : ∀ (l : List α) (i j : Nat) (x y : α) (v : Value), l[i]? = some x → j < k → (enc x).set j v = enc y → (l.flatMap enc).set (i * k + j) v = (l.set i y).flatMap enc
  | [], i, j, x, y, v, h, _, _ => by simp at h
  | a :: l, 0, j, x, y, v, h, hj, he => by
    simp only [List.getElem?_cons_zero, Option.some.injEq] at h
    subst h
    rw [List.flatMap_cons, List.set_cons_zero, List.flatMap_cons, List.set_append, if_pos (by rw [hk]; omega), Nat.zero_mul, Nat.zero_add, he]
  | a :: l, i + 1, j, x, y, v, h, hj, he => by
    rw [List.flatMap_cons, List.set_cons_succ, List.flatMap_cons, List.set_append, if_neg (by rw [hk, Nat.succ_mul]; omega), hk, show (i + 1) * k + j - k = i * k + j by rw [Nat.succ_mul]; omega,
      flat_set1 hk l i j x y v (by simpa using h) hj he]
structure IsBuf (M : AMem) (b mp : Nat) (q : Option Addr) (qc : Nat) (p s room : Int) (es : List En) : Prop where
  hd : Cells M b [.int .i64 p, .int .i64 s, .int .i64 room, .map (some mp), .slice q es.length qc]
  mm : ∃ mes, M[mp]? = some (.map .i64 .i64 mes) ∧ (mes.map (·.1)).Nodup ∧ ∀ x, mget x mes = (pix x es).map Int.ofNat
  sl : Slc M 4 q es.length qc (es.flatMap encE)
  ne : mp ≠ b ∧ b ∉ blk q ∧ mp ∉ blk q
  rt : Rt p s
  nd : (es.map En.px).Nodup
  px : ∀ e ∈ es, 0 ≤ e.px ∧ e.px < p
  rm : (es.length : Int) ≤ room ∧ 1 ≤ room ∧ room ≤ 4096
def bufB (b mp : Nat) (q : Option Addr) : List Nat := b :: mp :: blk q
theorem IsBuf.same {M M' : AMem} {S : List Nat} {b mp : Nat} {q : Option Addr} {qc : Nat} {p s room : Int} {es : List En} (h : IsBuf M b mp q qc p s room es) (k : Same M M' S) (hS : ∀ x ∈ bufB b mp q, x ∉ S) : IsBuf M' b mp q qc p s room es := by
  obtain ⟨mes, m1, m2, m3⟩ := h.mm
  exact ⟨h.hd.same k (hS b (by simp [bufB])), ⟨mes, k.at m1 (hS mp (by simp [bufB])), m2, m3⟩, h.sl.same k (fun x hx => hS x (by simp [bufB, hx])), h.ne, h.rt, h.nd, h.px, h.rm⟩
theorem IsBuf.lt {M : AMem} {b mp : Nat} {q : Option Addr} {qc : Nat} {p s room : Int} {es : List En} (h : IsBuf M b mp q qc p s room es) : ∀ x ∈ bufB b mp q, x < M.length := by
  intro x hx
  obtain ⟨mes, m1, _⟩ := h.mm
  simp only [bufB, List.mem_cons] at hx
  rcases hx with rfl | rfl | hx
  · exact h.hd.lt
  · exact lt_of_get m1
  · exact h.sl.lt x hx
theorem mp_get {M : AMem} {r : Nat} {k kv : IntKind} {es : List (Int × Int)} (h : M[r]? = some (.map k kv es)) : AMem.mp M k kv (some r) = some es := by
  unfold AMem.mp
  simp [h]
theorem bAny {β : Type} {M : AMem} {b o : Nat} {r : Option Nat} (h : AMem.ld M b o = some (.map r)) (f : Value → Option β) : Option.bind (anyOf? (AMem.ld M b o)) f = f (.map r) := by rw [h]; rfl
theorem bMap {β : Type} (r : Option Nat) (f : Option Nat → Option β) : Option.bind (mapOf? (some (.map r))) f = f r := rfl
theorem bgiven {M : AMem} {b mp : Nat} {q : Option Addr} {qc : Nat} {p s room : Int} {es : List En} (h : IsBuf M b mp q qc p s room es) : LL.call 56 [bp b] M = some (.bool true, M) := by
  rw [L_call56, E56]
  have l3 : M.ld b 3 = some (.map (some mp)) := h.hd.ld 3
  simp only [Option.isNone_some, Bool.not_false, if_true, Nat.zero_add]
  rw [bAny l3]
  rfl
theorem blen_spec {M : AMem} {b mp : Nat} {q : Option Addr} {qc : Nat} {p s room : Int} {es : List En} (h : IsBuf M b mp q qc p s room es) : LL.call 33 [bp b] M = some (.int .i64 (es.length : Int), M) := by
  rw [L_call33, E33, bX (bgiven h), bB, ifNT]
  have l4 : M.ld b 4 = some (.slice q es.length qc) := h.hd.ld 4
  simp only [Nat.zero_add]
  rw [bLS l4]
  rfl
theorem bnew_spec {p s n : Int} (M : AMem) (hr : Rt p s) (hn : 1 ≤ n ∧ n ≤ 4096) :
    ∃ M' b mp, LL.call 27 [lay p s, .int .i64 n] M = some (bp b, M') ∧ IsBuf M' b mp none 0 p s n [] ∧ Same M M' [] ∧ M.length ≤ b ∧ M.length ≤ mp := by
  rw [L_call27, E27]
  have g0 := cells_new M [.int .i64 p, .int .i64 s] 0
  have s0 := same_app M [AObj.cells [.int .i64 p, .int .i64 s] ⟨false, 0⟩]
  have l0 : (M ++ [AObj.cells [.int .i64 p, .int .i64 s] ⟨false, 0⟩]).length = M.length + 1 := by simp
  generalize M ++ [AObj.cells [.int .i64 p, .int .i64 s] ⟨false, 0⟩] = M0 at g0 s0 l0 ⊢
  have y0 : M0.ld M.length 0 = some (.int .i64 p) := g0.ld 0
  have y1 : M0.ld M.length 1 = some (.int .i64 s) := g0.ld 1
  obtain ⟨_, k⟩ := right_spec p s
  rw [bLI y0, bLI y1, bX k, bB, decide_eq_true hr, ifNT, ifDn (by omega), ifDn (by omega), bLI y0, bLI y1]
  have s1 := same_app M0 [AObj.map .i64 .i64 []]
  have l1 : (M0 ++ [AObj.map .i64 .i64 []]).length = M0.length + 1 := by simp
  have m1 : (M0 ++ [AObj.map .i64 .i64 []])[M0.length]? = some (AObj.map .i64 .i64 []) := by simp
  generalize M0 ++ [AObj.map .i64 .i64 []] = M1 at s1 l1 m1 ⊢
  have s2 := same_app M1 [AObj.cells [.int .i64 p, .int .i64 s, .int .i64 n, .map (some M0.length), .slice none 0 0] ⟨false, 0⟩]
  have g2 := cells_new M1 [.int .i64 p, .int .i64 s, .int .i64 n, .map (some M0.length), .slice none 0 0] 0
  refine ⟨_, M1.length, M0.length, rfl, ⟨g2, ⟨[], s2.at m1 (by simp), by simp, fun x => by simp [pix, mget]⟩, .nil _ _ _, ⟨by omega, by simp, by simp⟩, hr, by simp, by simp, by simp; omega⟩, ((s0.trans s1).trans s2).mono (by simp), by omega, by omega⟩
def wad (w v : Int) : Int := IntKind.wrap .u64 (w + IntKind.wrap .u64 v)
def wadd (e : En) (r g b : Int) : En := ⟨e.px, wad e.w0 r, wad e.w1 g, wad e.w2 b⟩
theorem put_step {M : AMem} {z i k : Nat} {es : List En} {e e' : En} {r g b v w : Int} (h : Cells M z (es.flatMap encE)) (he : es[i]? = some e) (hk : k < 3) (hv : ([r, g, b] : List Int)[k]? = some v) (hw : (encE e)[1 + k]? = some (.int .u64 w)) (hs : (encE e).set (1 + k) (.int .u64 (wad w v)) = encE e') :
    ∃ M', P63_35 LL ⟨z, i * 4 + 1, none⟩ r g b (k : Int) M = P63_35 LL ⟨z, i * 4 + 1, none⟩ r g b ((k + 1 : Nat) : Int) M' ∧ Cells M' z ((es.set i e').flatMap encE) ∧ Same M M' [z] := by
  have hil := (ges.1 he).1
  have hg : (0 : Int) ≤ (k : Int) ∧ (k : Int) < 3 := by omega
  have hw1 : IntKind.wrap .i64 ((k : Int) + 1) = ((k + 1 : Nat) : Int) := by rw [w64 (by omega)]; rfl
  have hv' : ([r, g, b] : List Int)[k * 1]? = some v := by rw [Nat.mul_one]; exact hv
  have hl : (es.flatMap encE).length = es.length * 4 := flatMap_length encE_length es
  have l0 : M.ld z (i * 4 + 1 + k) = some (.int .u64 w) := by
    rw [h.ld, Nat.add_assoc, flat_get encE_length es i (1 + k) e he (by omega)]
    exact hw
  obtain ⟨M', w1, w2, w3, w4⟩ := h.wr (o := i * 4 + 1 + k) (vs := [.int .u64 (wad w v)]) (by rw [hl, List.length_singleton]; omega)
  refine ⟨M', ?_, ?_, w3⟩
  · rw [P63_35_eq LL L_loop, ifD (by omega), if_pos hg]
    simp only [Int.toNat_natCast]
    rw [bX hv', if_pos hg]
    simp only [Nat.mul_one]
    rw [bLI l0, if_pos hg]
    unfold wad at w1
    rw [bX w1, P63_47_eq, hw1]
  · have : wrL (es.flatMap encE) (i * 4 + 1 + k) [.int .u64 (wad w v)] = (es.set i e').flatMap encE := by
      simp only [wrL]
      rw [Nat.add_assoc]
      exact flat_set1 encE_length es i (1 + k) e e' _ he (by omega) hs
    rw [← this]
    exact w2
theorem put_add {M : AMem} {b mp x3 i : Nat} {q : Option Addr} {qc : Nat} {p s room : Int} {es : List En} {e : En} {px r g bl : Int} (h : IsBuf M b mp q qc p s room es) (he : es[i]? = some e) (h3 : Rd M x3 [.int .i64 px, .int .i64 r, .int .i64 g, .int .i64 bl]) :
    ∃ M', P63_29 LL (some ⟨b, 0, none⟩) x3 (i : Int) M = some (.bool true, M') ∧ IsBuf M' b mp q qc p s room (es.set i (wadd e r g bl)) ∧ Same M M' (blk q) := by
  have hil := (ges.1 he).1
  have l4 : M.ld b 4 = some (.slice q es.length qc) := h.hd.ld 4
  have y1 : M.ld x3 1 = some (.int .i64 r) := h3.ld 1
  have y2 : M.ld x3 2 = some (.int .i64 g) := h3.ld 2
  have y3 : M.ld x3 3 = some (.int .i64 bl) := h3.ld 3
  obtain ⟨z, rfl, hz⟩ := h.sl.pos (by omega)
  have hg : (0 : Int) ≤ (i : Int) ∧ (i : Int) < Int.ofNat es.length := by rw [ofN]; omega
  obtain ⟨M1, a1, a2, a3⟩ := put_step (r := r) (g := g) (b := bl) (e' := { e with w0 := wad e.w0 r }) hz he (show 0 < 3 by omega) rfl rfl rfl
  have he1 : (es.set i { e with w0 := wad e.w0 r })[i]? = some { e with w0 := wad e.w0 r } := by rw [List.getElem?_set_self hil]
  obtain ⟨M2, b1, b2, b3⟩ := put_step (r := r) (g := g) (b := bl) (e' := { e with w0 := wad e.w0 r, w1 := wad e.w1 g }) a2 he1 (show 1 < 3 by omega) rfl rfl rfl
  rw [List.set_set] at b2
  have he2 : (es.set i { e with w0 := wad e.w0 r, w1 := wad e.w1 g })[i]? = some { e with w0 := wad e.w0 r, w1 := wad e.w1 g } := by rw [List.getElem?_set_self hil]
  obtain ⟨M3, c1, c2, c3⟩ := put_step (r := r) (g := g) (b := bl) (e' := wadd e r g bl) b2 he2 (show 2 < 3 by omega) rfl rfl rfl
  rw [List.set_set] at c2
  have t : Same M M3 [z] := ((a3.trans b3).trans c3).mono (by simp)
  obtain ⟨mes, m1, m2, m3⟩ := h.mm
  have hne := h.ne
  simp only [blk_some, List.mem_singleton] at hne
  refine ⟨M3, ?_, ⟨?_, ⟨mes, t.at m1 (by simpa using hne.2.2), m2, fun x => by rw [m3, pix_set x (e' := wadd e r g bl) he rfl]⟩, ?_, h.ne, h.rt, ?_, fun y hy => ?_, by rw [List.length_set]; exact h.rm⟩, t⟩
  · rw [P63_29_eq]
    simp only [Nat.zero_add]
    rw [bLS l4]
    simp only [↓if_pos hg, Int.toNat_natCast, Nat.zero_add]
    rw [bLI y1, bLI y2, bLI y3]
    have e0 : P63_35 LL ⟨z, i * 4 + 1, none⟩ r g bl 0 M = _ := a1
    rw [e0, b1, c1, P63_35_eq LL L_loop, ifDn (by omega), P63_48_eq]
  · rw [List.length_set]
    exact h.hd.same t (by simpa using hne.2.1)
  · rw [List.length_set]
    exact ⟨by rw [flatMap_length encE_length, List.length_set], .inr ⟨z, rfl, by
      rcases h.sl.2 with ⟨e1, _⟩ | ⟨a, _, e2, _⟩
      · cases e1
      · exact e2, c2⟩⟩
  · have : (es.set i (wadd e r g bl)).map En.px = es.map En.px := by
      rw [List.map_set]
      refine List.ext_getElem? fun g => ?_
      by_cases eg : i = g
      · subst eg; rw [List.getElem?_set_self (by simpa using hil), List.getElem?_map, he]; rfl
      · rw [List.getElem?_set_ne eg]
    rw [this]; exact h.nd
  · obtain ⟨j, hj⟩ := List.getElem?_of_mem hy
    by_cases ej : i = j
    · subst ej
      rw [List.getElem?_set_self hil] at hj
      cases hj
      exact h.px e (List.mem_of_getElem? he)
    · rw [List.getElem?_set_ne ej] at hj
      exact h.px y (List.mem_of_getElem? hj)
theorem mput_same {M : AMem} {r : Nat} {k kv : IntKind} {es : List (Int × Int)} : Same M (AMem.mput M k kv (some r) es) [r] := same_set M r _
theorem mput_get {M : AMem} {r : Nat} {k kv : IntKind} {es es2 : List (Int × Int)} (h : M[r]? = some (.map k kv es)) : (AMem.mput M k kv (some r) es2)[r]? = some (.map k kv es2) := get_set_self h
theorem mput_len (M : AMem) (r : Nat) (k kv : IntKind) (es : List (Int × Int)) : (AMem.mput M k kv (some r) es).length = M.length := by simp [AMem.mput]
theorem put_new {M : AMem} {b mp x3 : Nat} {q : Option Addr} {qc : Nat} {p s room : Int} {es : List En} {px r g bl : Int} (h : IsBuf M b mp q qc p s room es) (hpx : 0 ≤ px ∧ px < p) (hn : pix px es = none) (hroom : (es.length : Int) < room) (h3 : Rd M x3 [.int .i64 px, .int .i64 r, .int .i64 g, .int .i64 bl]) (hx3 : x3 ∉ bufB b mp q) :
    ∃ M' q', P63_25 LL (some ⟨b, 0, none⟩) x3 (es.length : Int) M = some (.bool true, M') ∧ IsBuf M' b mp q' 4 p s room (es ++ [wadd ⟨px, 0, 0, 0⟩ r g bl]) ∧ Same M M' (bufB b mp q) ∧ ∀ z ∈ blk q', M.length ≤ z := by
  obtain ⟨mes, m1, m2, m3⟩ := h.mm
  obtain ⟨n1, n2, n3⟩ := h.ne
  simp only [bufB, List.mem_cons, not_or] at hx3
  obtain ⟨x31, x32, x33⟩ := hx3
  have hrm := h.rm
  have l3 : M.ld b 3 = some (.map (some mp)) := h.hd.ld 3
  have y0 : M.ld x3 0 = some (.int .i64 px) := h3.ld 0
  obtain ⟨M1, eM1⟩ : ∃ M1, M1 = AMem.mput M .i64 .i64 (some mp) (mset px (es.length : Int) mes) := ⟨_, rfl⟩
  have t1 : Same M M1 [mp] := by rw [eM1]; exact mput_same
  have g1 : M1[mp]? = some (.map .i64 .i64 (mset px (es.length : Int) mes)) := by rw [eM1]; exact mput_get m1
  have hd1 := h.hd.same t1 (by simp; exact fun e => n1 e.symm)
  have h31 := h3.same t1 (by simpa using x32)
  have sl1 := h.sl.same t1 (fun z hz => by simp; intro e; subst e; exact n3 hz)
  have l4 : M1.ld b 4 = some (.slice q es.length qc) := hd1.ld 4
  have y01 : M1.ld x3 0 = some (.int .i64 px) := h31.ld 0
  obtain ⟨M2, c1, c2, c3, c4⟩ := append_row (bytes := 32) (v := 0) (new := encE ⟨px, 0, 0, 0⟩) (m := 1) sl1 rfl (by omega) (by omega)
  have hrow := rowOf_new M1 4 1 (encE ⟨px, 0, 0, 0⟩) 0 4 rfl
  unfold encE at hrow c1
  simp only at hrow c1
  have hd2 := hd1.same c3 n2
  obtain ⟨M3, w1, w2, w3, w4⟩ := hd2.wr (o := 4) (vs := [.slice (some ⟨M1.length + 1, 0, none⟩) (es.length + 1) 4]) (by simp)
  have hlM1 : M1.length = M.length := by rw [eM1]; exact mput_len _ _ _ _ _
  have hb := h.hd.lt
  have hmlt := lt_of_get m1
  have hx3lt := h3.lt
  have hchk : chkOk [(4, 8)] [(4, b)] [(8, (M1, M1 ++ [AObj.cells [.int .i64 px, .int .u64 0, .int .u64 0, .int .u64 0] ⟨false, 0⟩]))] = true := by
    simp [chkOk, List.lookup, ver_same (same_app M1 [AObj.cells [.int .i64 px, .int .u64 0, .int .u64 0, .int .u64 0] ⟨false, 0⟩]) (by omega : b < M1.length) (by simp)]
  have t13 : Same M1 M3 (blk q ++ [b]) := c3.trans w3
  have t03 : Same M M3 (bufB b mp q) := (t1.trans t13).mono (fun z hz => by simp [bufB] at hz ⊢; rcases hz with h | h | h <;> simp [h])
  have hB : IsBuf M3 b mp (some ⟨M1.length + 1, 0, none⟩) 4 p s room (es ++ [⟨px, 0, 0, 0⟩]) := by
    refine ⟨?_, ⟨_, t13.at g1 (by simp; exact ⟨n3, n1⟩), mset_nodup _ _ _ m2, fun x => ?_⟩, ?_, ⟨n1, by simp; omega, by simp; omega⟩, h.rt, ?_, fun y hy => ?_, ?_⟩
    · rw [List.length_append, List.length_singleton]
      simpa [wrL] using w2
    · rw [mget_mset, m3, pix_app]
      by_cases c : x = px
      · rw [if_pos c, c, hn]; simp
      · rw [if_neg c]
        cases pix x es with
        | some i => rfl
        | none => simp [c]
    · rw [List.length_append, List.length_singleton, List.flatMap_append]
      have := c2.same w3 (by simp; omega)
      simpa [encE] using this
    · rw [List.map_append, List.nodup_append]
      refine ⟨h.nd, by simp, fun a ha c hc => ?_⟩
      simp only [List.map_cons, List.map_nil, List.mem_singleton] at hc
      obtain ⟨y, hy, rfl⟩ := List.mem_map.1 ha
      rw [hc]
      exact fun e => (pix_none.1 hn y hy) e.symm
    · rcases List.mem_append.1 hy with hy | hy
      · exact h.px y hy
      · simp only [List.mem_singleton] at hy
        subst hy; exact hpx
    · rw [List.length_append, List.length_singleton]; omega
  have h33 : Rd M3 x3 [.int .i64 px, .int .i64 r, .int .i64 g, .int .i64 bl] := h31.same t13 (by simp; exact ⟨x33, x31⟩)
  obtain ⟨M', e1, e2, e3⟩ := put_add (i := es.length) (e := ⟨px, 0, 0, 0⟩) hB (by simp) h33
  have hset : (es ++ [(⟨px, 0, 0, 0⟩ : En)]).set es.length (wadd ⟨px, 0, 0, 0⟩ r g bl) = es ++ [wadd ⟨px, 0, 0, 0⟩ r g bl] := by simp
  rw [hset] at e2
  refine ⟨M', _, ?_, e2, ?_, by simp; omega⟩
  · rw [P63_25_eq]
    simp only [Nat.zero_add]
    rw [bAny l3, bLI y0, bMap, bX (mp_get m1), ← eM1, bLS l4, bLI y01, bX hrow, c1, bX w1, if_pos hchk]
    exact e1
  · exact (t03.trans e3).mono' fun z hz hlt => by
      rcases List.mem_append.1 hz with hz | hz
      · exact hz
      · simp at hz; omega
def putE (room px r g bl : Int) (es : List En) : Option (List En) :=
  match pix px es with
  | some i => some (es.set i (wadd (es.getD i ⟨0, 0, 0, 0⟩) r g bl))
  | none => if (es.length : Int) = room then none else some (es ++ [wadd ⟨px, 0, 0, 0⟩ r g bl])
theorem put_all {M : AMem} {b mp : Nat} {q : Option Addr} {qc : Nat} {p s room : Int} {es : List En} (px r g bl : Int) (h : IsBuf M b mp q qc p s room es) (hpx : 0 ≤ px ∧ px < p) (hw : Wt r g bl) :
    ∃ M' q' qc', LL.call 63 [bp b, .agg #[.int .i64 px, .int .i64 r, .int .i64 g, .int .i64 bl]] M = some (.bool (putE room px r g bl es).isSome, M') ∧ IsBuf M' b mp q' qc' p s room ((putE room px r g bl es).getD es) ∧ Same M M' (bufB b mp q) ∧ (∀ z ∈ blk q', z ∈ blk q ∨ M.length ≤ z) := by
  rw [L_call63, E63]
  have g0 := cells_new M [.int .i64 px, .int .i64 r, .int .i64 g, .int .i64 bl] 0
  have s0 := same_app M [AObj.cells [.int .i64 px, .int .i64 r, .int .i64 g, .int .i64 bl] ⟨false, 0⟩]
  have l0 : (M ++ [AObj.cells [.int .i64 px, .int .i64 r, .int .i64 g, .int .i64 bl] ⟨false, 0⟩]).length = M.length + 1 := by simp
  generalize M ++ [AObj.cells [.int .i64 px, .int .i64 r, .int .i64 g, .int .i64 bl] ⟨false, 0⟩] = M0 at g0 s0 l0 ⊢
  have hlt := h.lt
  have h0 := h.same s0 (by simp)
  have p0 : M0.ld b 0 = some (.int .i64 p) := h0.hd.ld 0
  have p1 : M0.ld b 1 = some (.int .i64 s) := h0.hd.ld 1
  have p2 : M0.ld b 2 = some (.int .i64 room) := h0.hd.ld 2
  have p3 : M0.ld b 3 = some (.map (some mp)) := h0.hd.ld 3
  have p4 : M0.ld b 4 = some (.slice q es.length qc) := h0.hd.ld 4
  have y0 : M0.ld M.length 0 = some (.int .i64 px) := g0.ld 0
  have y1 : M0.ld M.length 1 = some (.int .i64 r) := g0.ld 1
  have y2 : M0.ld M.length 2 = some (.int .i64 g) := g0.ld 2
  have y3 : M0.ld M.length 3 = some (.int .i64 bl) := g0.ld 3
  have hx : M.length ∉ bufB b mp q := fun hm => by have := hlt _ hm; omega
  obtain ⟨mes, m1, m2, m3⟩ := h0.mm
  have hrm := h.rm
  obtain ⟨_, ks⟩ := stripe_spec p s px
  obtain ⟨_, kw⟩ := weight_spec r g bl
  rw [bX (bgiven h0), bB, ifNT]
  simp only [Nat.zero_add]
  rw [bLI p0, bLI p1, bLI y0, bX ks, bI]
  have htm : 0 ≤ Int.tmod px s := Int.tmod_nonneg _ hpx.1
  have e1 : (if Rt p s ∧ 0 ≤ px ∧ px < p then Int.tmod px s else -1) = Int.tmod px s := if_pos ⟨h.rt, hpx⟩
  rw [e1, ifDn (by omega), bLI y1, bLI y2, bLI y3, bX kw, bB]
  rw [decide_eq_true hw, ifNT, bAny p3, bLI y0, bMap, bX (mp_get m1), m3]
  unfold putE
  cases hpi : pix px es with
  | some i =>
    obtain ⟨e, he, hepx⟩ := pix_some hpi
    rw [show (!(Option.map Int.ofNat (some i)).isSome) = false from rfl, ifF, ifF]
    obtain ⟨M', a1, a2, a3⟩ := put_add h0 he g0.rd
    refine ⟨M', q, qc, a1, ?_, (s0.trans a3).mono (fun z hz => by simp [bufB] at hz ⊢; simp [hz]), fun z hz => .inl hz⟩
    rw [Option.getD_some, List.getD_eq_getElem?_getD, he]; exact a2
  | none =>
    rw [show (!(Option.map Int.ofNat (none : Option Nat)).isSome) = true from rfl, ifT, bLS p4, bLI p2]
    by_cases hfull : (es.length : Int) = room
    · rw [show (Int.ofNat es.length == room) = true by simpa using hfull, ifT]
      simp only [hfull, if_true]
      exact ⟨M0, q, qc, rfl, h0, s0.mono (by simp), fun z hz => .inl hz⟩
    · rw [show (Int.ofNat es.length == room) = false by simpa using hfull, ifF, ifT, bLS p4]
      obtain ⟨M', q', a1, a2, a3, a4⟩ := put_new h0 hpx hpi (by omega) g0.rd hx
      simp only [hfull, if_false]
      exact ⟨M', q', 4, a1, a2, (s0.trans a3).mono (by simp), fun z hz => .inr (by have := a4 z hz; omega)⟩
end Go.Proofs.YtbclhglmdhojdaaGreat
