/- What stays as it was: memories that differ at some blocks alone. -/
import Derived.Test.YtjmeilpffmhojaaAxKit
set_option linter.unusedVariables false
namespace Go.Ax
open Go

/-- The second memory is the first one but for some blocks; it may have more. -/
structure Same (M M' : AMem) (S : List Nat) : Prop where
  le : M.length ≤ M'.length
  get : ∀ b, b < M.length → b ∉ S → M'[b]? = M[b]?

theorem Same.refl (M : AMem) (S : List Nat) : Same M M S := ⟨Nat.le_refl _, fun _ _ _ => rfl⟩

theorem Same.mono {M M' : AMem} {S T : List Nat} (h : Same M M' S) (hs : ∀ b ∈ S, b ∈ T) : Same M M' T :=
  ⟨h.le, fun b hb hn => h.get b hb fun hm => hn (hs b hm)⟩

/-- What is changed may be new: then it is nothing of the first one's. -/
theorem Same.mono' {M M' : AMem} {S T : List Nat} (h : Same M M' S) (hs : ∀ b ∈ S, b < M.length → b ∈ T) : Same M M' T :=
  ⟨h.le, fun b hb hn => h.get b hb fun hm => hn (hs b hm hb)⟩

theorem Same.trans {M M' M'' : AMem} {S T : List Nat} (h : Same M M' S) (k : Same M' M'' T) : Same M M'' (S ++ T) :=
  ⟨Nat.le_trans h.le k.le, fun b hb hn => by
    rw [List.mem_append, not_or] at hn
    rw [k.get b (Nat.lt_of_lt_of_le hb h.le) hn.2, h.get b hb hn.1]⟩

theorem Same.trans' {M M' M'' : AMem} {S : List Nat} (h : Same M M' S) (k : Same M' M'' S) : Same M M'' S :=
  (h.trans k).mono fun b hb => by simpa using hb

theorem lt_of_get {M : AMem} {b : Nat} {x : AObj} (h : M[b]? = some x) : b < M.length := (List.getElem?_eq_some_iff.1 h).1

theorem Same.at {M M' : AMem} {S : List Nat} (h : Same M M' S) {b : Nat} {x : AObj} (hx : M[b]? = some x) (hb : b ∉ S) : M'[b]? = some x := by
  rw [h.get b (lt_of_get hx) hb, hx]

theorem same_set (M : AMem) (b : Nat) (x : AObj) : Same M (M.set b x) [b] :=
  ⟨by simp, fun c _ hn => by
    rw [List.getElem?_set_ne]; intro e; exact hn (by simp [e])⟩

theorem same_app (M N : AMem) : Same M (M ++ N) [] :=
  ⟨by simp, fun c hc _ => List.getElem?_append_left hc⟩

theorem get_set_self {M : AMem} {b : Nat} {x y : AObj} (h : M[b]? = some y) : (M.set b x)[b]? = some x := by
  rw [List.getElem?_set_self (lt_of_get h)]

theorem get_set_ne {M : AMem} {b c : Nat} {x : AObj} (h : b ≠ c) : (M.set b x)[c]? = M[c]? := List.getElem?_set_ne h

/-- A block of cells that may be written. -/
def Cells (M : AMem) (b : Nat) (cs : List Value) : Prop := ∃ v, M[b]? = some (.cells cs ⟨false, v⟩)

/-- A block of cells that may be read. -/
def Rd (M : AMem) (b : Nat) (cs : List Value) : Prop := ∃ m, M[b]? = some (.cells cs m)

theorem Cells.rd {M : AMem} {b : Nat} {cs : List Value} (h : Cells M b cs) : Rd M b cs := let ⟨_, h⟩ := h; ⟨_, h⟩
theorem Cells.lt {M : AMem} {b : Nat} {cs : List Value} (h : Cells M b cs) : b < M.length := let ⟨_, h⟩ := h; lt_of_get h
theorem Rd.lt {M : AMem} {b : Nat} {cs : List Value} (h : Rd M b cs) : b < M.length := let ⟨_, h⟩ := h; lt_of_get h
theorem Cells.same {M M' : AMem} {S : List Nat} {b : Nat} {cs : List Value} (h : Cells M b cs) (k : Same M M' S) (hb : b ∉ S) : Cells M' b cs :=
  let ⟨v, h⟩ := h; ⟨v, k.at h hb⟩
theorem Rd.same {M M' : AMem} {S : List Nat} {b : Nat} {cs : List Value} (h : Rd M b cs) (k : Same M M' S) (hb : b ∉ S) : Rd M' b cs :=
  let ⟨v, h⟩ := h; ⟨v, k.at h hb⟩

theorem Rd.ld {M : AMem} {b : Nat} {cs : List Value} (h : Rd M b cs) (o : Nat) : M.ld b o = cs[o]? := let ⟨_, h⟩ := h; ld_of h o
theorem Cells.ld {M : AMem} {b : Nat} {cs : List Value} (h : Cells M b cs) (o : Nat) : M.ld b o = cs[o]? := h.rd.ld o
theorem Rd.rd {M : AMem} {b o n : Nat} {cs : List Value} (h : Rd M b cs) (hl : o + n ≤ cs.length) : AMem.rd M b o n = some ((cs.drop o).take n) := let ⟨_, h⟩ := h; rd_of h hl
theorem Cells.rd' {M : AMem} {b o n : Nat} {cs : List Value} (h : Cells M b cs) (hl : o + n ≤ cs.length) : AMem.rd M b o n = some ((cs.drop o).take n) := h.rd.rd hl

/-- What a write comes to. -/
theorem Cells.wr {M : AMem} {b o : Nat} {cs vs : List Value} (h : Cells M b cs) (hl : o + vs.length ≤ cs.length) :
    ∃ M', M.wr b o vs = some M' ∧ Cells M' b (wrL cs o vs) ∧ Same M M' [b] ∧ M'.length = M.length := by
  obtain ⟨v, h⟩ := h
  exact ⟨_, wr_of h rfl hl, ⟨_, get_set_self h⟩, same_set _ _ _, by simp⟩

theorem cells_new (M : AMem) (cs : List Value) (v : Nat) : Cells (M ++ [.cells cs ⟨false, v⟩]) M.length cs := ⟨v, get_new _ _⟩

/-- A row of cells behind a slice. -/
theorem rowOf_some {M : AMem} {esz n c o b : Nat} {cs : List Value} (h : Rd M b cs) (hl : o + n * esz ≤ cs.length) :
    rowOf M esz (.slice (some ⟨b, o, none⟩) n c) = some ((cs.drop o).take (n * esz)) := by
  by_cases hn : n = 0
  · subst hn; simp [rowOf]
  · simp only [rowOf, if_neg hn]; exact h.rd hl

/-- Numbers as values. -/
def ints (k : IntKind) (l : List Int) : List Value := l.map (.int k)

@[simp] theorem ints_length (k : IntKind) (l : List Int) : (ints k l).length = l.length := by simp [ints]
@[simp] theorem ints_get (k : IntKind) (l : List Int) (i : Nat) : (ints k l)[i]? = l[i]?.map (.int k) := by simp [ints]

theorem w64 {n : Int} (h : -9223372036854775808 ≤ n ∧ n ≤ 9223372036854775807) : IntKind.wrap .i64 n = n := by rw [IntKind.wrap_i64]; omega

theorem agg2 (a b : Value) : aggOf? 2 (.agg #[a, b]) = some [a, b] := rfl
theorem agg3 (a b c : Value) : aggOf? 3 (.agg #[a, b, c]) = some [a, b, c] := rfl
theorem agg4 (a b c d : Value) : aggOf? 4 (.agg #[a, b, c, d]) = some [a, b, c, d] := rfl
theorem tup2 (a b : Value) : tupOf? 2 (.tuple #[a, b]) = some [a, b] := rfl
theorem tup3 (a b c : Value) : tupOf? 3 (.tuple #[a, b, c]) = some [a, b, c] := rfl
theorem get0 {α : Type} (a : α) (l : List α) : (a :: l)[0]? = some a := rfl
theorem get1 {α : Type} (a b : α) (l : List α) : (a :: b :: l)[1]? = some b := rfl
theorem get2 {α : Type} (a b c : α) (l : List α) : (a :: b :: c :: l)[2]? = some c := rfl
theorem get3 {α : Type} (a b c d : α) (l : List α) : (a :: b :: c :: d :: l)[3]? = some d := rfl

end Go.Ax
