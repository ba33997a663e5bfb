/- The program's looks. -/
import Derived.Test.YtpnknolehckfhaaEqPeek
import Derived.Test.YtpnknolehckfhaaCell
import Derived.Test.YtpnknolehckfhaaLayout
import Derived.Test.YtpnknolehckfhaaAxD
set_option linter.unusedVariables false
set_option linter.unusedSimpArgs false
namespace Go.Proofs.Ytpnknolehckfhaa
open Go Go.Ax

/-- What stands in a look: how many pixels and stripes, at most how many tries, how many there were, what is read next, what was read, whether it is over, and with what. -/
structure PK where
  p : Nat
  s : Nat
  most : Nat
  tries : Nat
  i : Nat
  arr : List Int
  over : Bool
  en : Int

def PK.all (x : PK) : Nat := 2 * x.s + 3 * x.p

structure IsPk (M : AMem) (b be bb bf : Nat) (x : PK) : Prop where
  hd : Cells M b [.int .i64 (x.p : Int), .int .i64 (x.s : Int), .int .i64 (x.most : Int), .int .i64 (x.tries : Int), .int .i64 (x.i : Int), .slice (some ⟨be, 0, none⟩) x.s 1, .slice (some ⟨bb, 0, none⟩) x.s 1, .slice (some ⟨bf, 0, none⟩) x.p 3, .int .i64 x.en, .bool x.over]
  ce : Cells M be (ints .u64 (x.arr.take x.s))
  cf : Cells M bf (ints .u64 ((x.arr.drop x.s).take (3 * x.p)))
  cb : Cells M bb (ints .u64 (x.arr.drop (x.s + 3 * x.p)))
  ne : be ≠ b ∧ bb ≠ b ∧ bf ≠ b ∧ be ≠ bb ∧ be ≠ bf ∧ bb ≠ bf
  rt : Rt x.p x.s
  mo : 1 ≤ x.most ∧ x.most ≤ 1000
  tr : x.tries ≤ x.most ∧ (x.over = false → x.tries < x.most)
  len : x.arr.length = x.all
  ix : x.over = false → x.i < x.all

theorem IsPk.same {M M' : AMem} {S : List Nat} {b be bb bf : Nat} {x : PK} (h : IsPk M b be bb bf x) (k : Same M M' S) (h0 : b ∉ S) (h1 : be ∉ S) (h2 : bb ∉ S) (h3 : bf ∉ S) : IsPk M' b be bb bf x :=
  ⟨h.hd.same k h0, h.ce.same k h1, h.cf.same k h3, h.cb.same k h2, h.ne, h.rt, h.mo, h.tr, h.len, h.ix⟩

theorem IsPk.ld {M : AMem} {b be bb bf : Nat} {x : PK} (h : IsPk M b be bb bf x) : M.ld b 0 = some (.int .i64 (x.p : Int)) ∧ M.ld b 1 = some (.int .i64 (x.s : Int)) ∧ M.ld b 2 = some (.int .i64 (x.most : Int)) ∧ M.ld b 3 = some (.int .i64 (x.tries : Int)) ∧ M.ld b 4 = some (.int .i64 (x.i : Int)) ∧
    M.ld b 5 = some (.slice (some ⟨be, 0, none⟩) x.s 1) ∧ M.ld b 6 = some (.slice (some ⟨bb, 0, none⟩) x.s 1) ∧ M.ld b 7 = some (.slice (some ⟨bf, 0, none⟩) x.p 3) ∧ M.ld b 8 = some (.int .i64 x.en) ∧ M.ld b 9 = some (.bool x.over) :=
  ⟨h.hd.ld 0, h.hd.ld 1, h.hd.ld 2, h.hd.ld 3, h.hd.ld 4, h.hd.ld 5, h.hd.ld 6, h.hd.ld 7, h.hd.ld 8, h.hd.ld 9⟩

theorem given_spec {M : AMem} {b be bb bf : Nat} {x : PK} (h : IsPk M b be bb bf x) : LL.call 40 [pt b] M = some (.bool true, M) := by
  rw [L_call40, E40]
  obtain ⟨_, _, h2, _⟩ := h.ld
  have hm := h.mo
  simp only [Option.isNone_some, Bool.not_false, if_true, Nat.zero_add, ↓bLI h2]
  rw [decide_eq_true (by omega)]

theorem given_nil (M : AMem) : LL.call 40 [.pointer none] M = some (.bool false, M) := by
  rw [L_call40, E40]
  simp

/-- The cell that is read at a time. -/
def pkRd (p s k : Nat) : Nat := if k < s then 1 + s + k else if k < s + 3 * p then 1 + 2 * s + (k - s) else 1 + (k - s - 3 * p)

theorem place34 {M : AMem} {b be bb bf : Nat} {x : PK} (h : IsPk M b be bb bf x) (ho : x.over = false) :
    ∃ pb po, LL.call 42 [pt b] M = some (.tuple #[.int .i64 (pkRd x.p x.s x.i : Nat), .pointer (some ⟨pb, po, none⟩)], M) ∧ pb ∈ [be, bb, bf] ∧
      ∀ (M1 : AMem) (v : Int), IsPk M1 b be bb bf x → ∃ M2, AMem.wr M1 pb po [.int .u64 v] = some M2 ∧ IsPk M2 b be bb bf { x with arr := x.arr.set x.i v } ∧ Same M1 M2 [pb] := by
  rw [L_call42, E42]
  obtain ⟨h0, h1, h2, h3, h4, h5, h6, h7, h8, h9⟩ := h.ld
  have hix := h.ix ho
  have hlen := h.len
  have hr := h.rt
  obtain ⟨r1, r2, r3, r4⟩ := h.rt
  unfold PK.all at hix hlen
  unfold pkRd
  have mk : ∀ {M2 : AMem} (v : Int), Cells M2 b _ → Cells M2 be (ints .u64 ((x.arr.set x.i v).take x.s)) → Cells M2 bf (ints .u64 (((x.arr.set x.i v).drop x.s).take (3 * x.p))) → Cells M2 bb (ints .u64 ((x.arr.set x.i v).drop (x.s + 3 * x.p))) → IsPk M2 b be bb bf { x with arr := x.arr.set x.i v } :=
    fun {M2} v k1 k2 k3 k4 => ⟨k1, k2, k3, k4, h.ne, h.rt, h.mo, h.tr, by rw [List.length_set]; exact h.len, h.ix⟩
  obtain ⟨n1, n2, n3, n4, n5, n6⟩ := h.ne
  simp only [Nat.zero_add, ↓bLI h4, ↓bLI h1, ↓bLI h0]
  by_cases c1 : x.i < x.s
  · obtain ⟨_, k⟩ := ended_spec x.p x.s x.i
    rw [if_pos ⟨hr, by omega, by omega⟩] at k
    refine ⟨be, x.i, ?_, by simp, fun M1 v hm => ?_⟩
    · rw [ifD (by omega), bX k, bI, bLS h5]
      have hg : (0 : Int) ≤ (x.i : Int) ∧ (x.i : Int) < Int.ofNat x.s := by rw [ofN]; omega
      simp only [↓if_pos hg, ↓if_pos c1, Int.toNat_natCast, Nat.zero_add, Nat.mul_one]
      congr 4
    · obtain ⟨M2, w1, w2, w3, w4⟩ := hm.ce.wr (o := x.i) (vs := [.int .u64 v]) (by simp; omega)
      rw [wrL_ints] at w2
      refine ⟨M2, w1, mk v (hm.hd.same w3 (by simp; omega)) ?_ ?_ ?_, w3⟩
      · rw [List.take_set]; exact w2
      · rw [List.drop_set_of_lt c1]; exact hm.cf.same w3 (by simp; omega)
      · rw [List.drop_set_of_lt (by omega)]; exact hm.cb.same w3 (by simp; omega)
  · have w1 : IntKind.wrap .i64 ((x.i : Int) - (x.s : Int)) = ((x.i - x.s : Nat) : Int) := by rw [w64 (by omega)]; omega
    have w2 : IntKind.wrap .i64 (3 * (x.p : Int)) = 3 * (x.p : Int) := w64 (by omega)
    rw [ifDn (by omega), w1, w2]
    by_cases c2 : x.i < x.s + 3 * x.p
    · have d1 : Int.tdiv ((x.i - x.s : Nat) : Int) 3 = (((x.i - x.s) / 3 : Nat) : Int) := (Int.ofNat_tdiv (x.i - x.s) 3).symm
      have d2 : Int.tmod ((x.i - x.s : Nat) : Int) 3 = (((x.i - x.s) % 3 : Nat) : Int) := Int.ofNat_tmod (x.i - x.s) 3
      have d3 : IntKind.wrap .i64 (((x.i - x.s) / 3 : Nat) : Int) = (((x.i - x.s) / 3 : Nat) : Int) := w64 (by omega)
      have hdm := Nat.div_add_mod (x.i - x.s) 3
      have hlt := Nat.mod_lt (x.i - x.s) (show 0 < 3 by omega)
      obtain ⟨_, k⟩ := channel_spec x.p x.s (((x.i - x.s) / 3 : Nat) : Int) (((x.i - x.s) % 3 : Nat) : Int)
      rw [if_pos ⟨hr, by omega, by omega⟩] at k
      refine ⟨bf, x.i - x.s, ?_, by simp, fun M1 v hm => ?_⟩
      · rw [ifD (by omega), d1, d2, d3, bX k, bI, bLS h7]
        have hg : (0 : Int) ≤ (((x.i - x.s) / 3 : Nat) : Int) ∧ (((x.i - x.s) / 3 : Nat) : Int) < Int.ofNat x.p := by rw [ofN]; omega
        have hg2 : (0 : Int) ≤ (((x.i - x.s) % 3 : Nat) : Int) ∧ (((x.i - x.s) % 3 : Nat) : Int) < 3 := by omega
        simp only [↓if_pos hg, ↓if_pos hg2, ↓if_neg c1, ↓if_pos c2, Int.toNat_natCast, Nat.zero_add, Nat.mul_one]
        have e1 : (1 + 2 * (x.s : Int) + (3 * (((x.i - x.s) / 3 : Nat) : Int) + (((x.i - x.s) % 3 : Nat) : Int))) = ((1 + 2 * x.s + (x.i - x.s) : Nat) : Int) := by omega
        have e2 : (x.i - x.s) / 3 * 3 + (x.i - x.s) % 3 = x.i - x.s := by omega
        rw [e1, e2]
      · obtain ⟨M2, w1, w2, w3, w4⟩ := hm.cf.wr (o := x.i - x.s) (vs := [.int .u64 v]) (by simp; omega)
        rw [wrL_ints] at w2
        refine ⟨M2, w1, mk v (hm.hd.same w3 (by simp; omega)) ?_ ?_ ?_, w3⟩
        · rw [List.take_set_of_le (by omega)]; exact hm.ce.same w3 (by simp; omega)
        · rw [List.drop_set, if_neg (by omega), List.take_set]; exact w2
        · rw [List.drop_set_of_lt (by omega)]; exact hm.cb.same w3 (by simp; omega)
    · have w3 : IntKind.wrap .i64 (((x.i - x.s : Nat) : Int) - 3 * (x.p : Int)) = ((x.i - x.s - 3 * x.p : Nat) : Int) := by rw [w64 (by omega)]; omega
      obtain ⟨_, k⟩ := begun_spec x.p x.s ((x.i - x.s - 3 * x.p : Nat) : Int) (.inl r4)
      rw [if_pos ⟨hr, by omega, by omega⟩] at k
      refine ⟨bb, x.i - x.s - 3 * x.p, ?_, by simp, fun M1 v hm => ?_⟩
      · rw [ifDn (by omega), w3, P42_24_eq]
        simp only [Nat.zero_add]
        rw [bLI h0, bLI h1, bX k, bI, bLS h6]
        have hg : (0 : Int) ≤ ((x.i - x.s - 3 * x.p : Nat) : Int) ∧ ((x.i - x.s - 3 * x.p : Nat) : Int) < Int.ofNat x.s := by rw [ofN]; omega
        simp only [↓if_pos hg, ↓if_neg c1, ↓if_neg c2, Int.toNat_natCast, Nat.zero_add, Nat.mul_one]
        congr 4
      · obtain ⟨M2, w1, w2, w3, w4⟩ := hm.cb.wr (o := x.i - x.s - 3 * x.p) (vs := [.int .u64 v]) (by simp; omega)
        rw [wrL_ints] at w2
        refine ⟨M2, w1, mk v (hm.hd.same w3 (by simp; omega)) ?_ ?_ ?_, w3⟩
        · rw [List.take_set_of_le (by omega)]; exact hm.ce.same w3 (by simp; omega)
        · rw [List.drop_set, if_neg (by omega), List.take_set_of_le (by omega)]; exact hm.cf.same w3 (by simp; omega)
        · rw [List.drop_set, if_neg (by omega)]
          rw [Nat.sub_sub] at w2
          exact w2

end Go.Proofs.Ytpnknolehckfhaa
