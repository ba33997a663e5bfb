/- Helpers for what the pieces come to. -/
import Derived.Test.YtjmeilpffmhojaaAxTop
set_option linter.unusedVariables false
namespace Go.Ax
open Go

theorem appendK_nil (esz bytes c m : Nat) (new : List Value) (M : AMem) (K : Option Addr → Nat → Nat → AMem → Res) (hm : m ≠ 0) (hb : 0 + m ≤ (281474976710656 / (bytes + 1) - 1024) / 2) :
    appendK esz bytes none 0 c m new M K = K (some ⟨M.length, 0, none⟩) m esz (M ++ [.cells new ⟨false, 0⟩]) := by
  unfold appendK
  rw [if_neg hm, if_pos hb]; rfl

theorem appendK_some (esz bytes b o n m : Nat) (new cs : List Value) (mt : Meta) (M : AMem) (K : Option Addr → Nat → Nat → AMem → Res) (hm : m ≠ 0) (hb : n + m ≤ (281474976710656 / (bytes + 1) - 1024) / 2)
    (hM : M[b]? = some (.cells cs mt)) (hro : mt.ro = false) (hl : o + n * esz ≤ cs.length) :
    appendK esz bytes (some ⟨b, o, none⟩) n esz m new M K = K (some ⟨M.length, 0, none⟩) (n + m) esz (M.set b .dead ++ [.cells ((cs.drop o).take (n * esz) ++ new) ⟨false, 0⟩]) := by
  unfold appendK
  rw [if_neg hm, if_pos hb]
  simp only [hM]
  rw [if_pos ⟨hro, trivial, hl⟩]

/-! #### memory -/

@[simp] theorem intOf_int (k : IntKind) (n : Int) : intOf? k (some (.int k n)) = some n := by simp [intOf?]
@[simp] theorem boolOf_bool (b : Bool) : boolOf? (some (.bool b)) = some b := rfl
@[simp] theorem ptrOf_ptr (p : Option Addr) : ptrOf? (some (.pointer p)) = some p := rfl
@[simp] theorem sliceOf_slice (p : Option Addr) (n c : Nat) : sliceOf? (some (.slice p n c)) = some (p, n, c) := rfl

theorem ld_new (M : AMem) (cs : List Value) (m : Meta) (o : Nat) : AMem.ld (M ++ [AObj.cells cs m]) M.length o = cs[o]? := by
  simp [AMem.ld]

theorem ld_of {M : AMem} {b : Nat} {cs : List Value} {m : Meta} (h : M[b]? = some (.cells cs m)) (o : Nat) : M.ld b o = cs[o]? := by
  simp [AMem.ld, h]

theorem get_app_lt {M N : AMem} {b : Nat} {x : AObj} (h : M[b]? = some x) : (M ++ N)[b]? = some x := by
  have := (List.getElem?_eq_some_iff.1 h).1
  rw [List.getElem?_append_left this]; exact h

theorem get_new (M : AMem) (x : AObj) : (M ++ [x])[M.length]? = some x := by simp

theorem rd_of {M : AMem} {b o n : Nat} {cs : List Value} {m : Meta} (h : M[b]? = some (.cells cs m)) (hl : o + n ≤ cs.length) : M.rd b o n = some ((cs.drop o).take n) := by
  simp [AMem.rd, h, hl]

theorem wr_of {M : AMem} {b o : Nat} {cs vs : List Value} {m : Meta} (h : M[b]? = some (.cells cs m)) (hro : m.ro = false) (hl : o + vs.length ≤ cs.length) :
    M.wr b o vs = some (M.set b (.cells (wrL cs o vs) { m with ver := m.ver + 1 })) := by
  simp [AMem.wr, h, hro, hl]

theorem lookup_mem {α : Type} : ∀ {l : List (Nat × α)} {g : Nat} {a : α}, l.lookup g = some a → (g, a) ∈ l
  | [], g, a, h => by simp at h
  | (k, b) :: l, g, a, h => by
    simp only [List.lookup] at h
    split at h
    · rename_i e
      cases h
      have : g = k := by simpa using e
      subst this
      exact List.mem_cons_self
    · exact List.mem_cons_of_mem _ (lookup_mem h)

end Go.Ax
