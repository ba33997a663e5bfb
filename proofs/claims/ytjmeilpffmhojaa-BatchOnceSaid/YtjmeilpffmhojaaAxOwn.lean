/- Slices of one's own: rows that grow. -/
import Derived.Test.YtjmeilpffmhojaaAxArg
set_option linter.unusedVariables false
set_option linter.unusedSimpArgs false
namespace Go.Ax
open Go

/-- The blocks of a slice. -/
def blk : Option Addr → List Nat
  | none => []
  | some a => [a.block]

@[simp] theorem blk_none : blk none = [] := rfl
@[simp] theorem blk_some (a o : Nat) (s : Option Nat) : blk (some ⟨a, o, s⟩) = [a] := rfl

/-- A slice that was made here, and what lies in it. -/
def Slc (M : AMem) (esz : Nat) (p : Option Addr) (n c : Nat) (cs : List Value) : Prop :=
  cs.length = n * esz ∧ ((p = none ∧ n = 0) ∨ ∃ a, p = some ⟨a, 0, none⟩ ∧ c = esz ∧ Cells M a cs)

theorem Slc.len {M : AMem} {esz n c : Nat} {p : Option Addr} {cs : List Value} (h : Slc M esz p n c cs) : cs.length = n * esz := h.1

theorem Slc.same {M M' : AMem} {S : List Nat} {esz n c : Nat} {p : Option Addr} {cs : List Value} (h : Slc M esz p n c cs) (k : Same M M' S) (hb : ∀ b ∈ blk p, b ∉ S) : Slc M' esz p n c cs := by
  obtain ⟨h1, h2⟩ := h
  refine ⟨h1, ?_⟩
  rcases h2 with h2 | ⟨a, rfl, rfl, h2⟩
  · exact .inl h2
  · exact .inr ⟨a, rfl, rfl, h2.same k (hb a (by simp))⟩

theorem Slc.nil (M : AMem) (esz c : Nat) : Slc M esz none 0 c [] := ⟨by simp, .inl ⟨rfl, rfl⟩⟩

theorem Slc.lt {M : AMem} {esz n c : Nat} {p : Option Addr} {cs : List Value} (h : Slc M esz p n c cs) : ∀ b ∈ blk p, b < M.length := by
  rcases h.2 with ⟨rfl, _⟩ | ⟨a, rfl, _, h2⟩
  · simp
  · intro b hb; simp at hb; subst hb; exact h2.lt

theorem Slc.of {M : AMem} {esz n a : Nat} {cs : List Value} (h : Cells M a cs) (hl : cs.length = n * esz) : Slc M esz (some ⟨a, 0, none⟩) n esz cs := ⟨hl, .inr ⟨a, rfl, rfl, h⟩⟩

/-- Where there is something, there is a block. -/
theorem Slc.pos {M : AMem} {esz n c : Nat} {p : Option Addr} {cs : List Value} (h : Slc M esz p n c cs) (hn : 0 < n) : ∃ a, p = some ⟨a, 0, none⟩ ∧ Cells M a cs := by
  rcases h.2 with ⟨_, h0⟩ | ⟨a, h1, _, h2⟩
  · omega
  · exact ⟨a, h1, h2⟩

theorem Same.app_new {M : AMem} (x : AObj) : Same M (M ++ [x]) [] := same_app M [x]

/-- An append to a slice of one's own. -/
theorem append_own {M : AMem} {esz bytes n c m : Nat} {p : Option Addr} {cs new : List Value} (h : Slc M esz p n c cs) (hnew : new.length = m * esz) (hm : m ≠ 0)
    (hb : n + m ≤ (281474976710656 / (bytes + 1) - 1024) / 2) :
    ∃ M', (∀ K, appendK esz bytes p n c m new M K = K (some ⟨M.length, 0, none⟩) (n + m) esz M') ∧ Slc M' esz (some ⟨M.length, 0, none⟩) (n + m) esz (cs ++ new) ∧ Same M M' (blk p) ∧ M'.length = M.length + 1 := by
  obtain ⟨h1, h2⟩ := h
  rcases h2 with ⟨rfl, rfl⟩ | ⟨a, rfl, rfl, v, h2⟩
  · have : cs = [] := by simpa using h1
    subst this
    refine ⟨M ++ [.cells new ⟨false, 0⟩], fun K => ?_, .of (by simpa using cells_new M new 0) (by simpa using hnew), (same_app M _).mono (by simp), by simp⟩
    rw [appendK_nil _ _ _ _ _ _ _ hm hb, Nat.zero_add]
  · refine ⟨M.set a .dead ++ [.cells (cs ++ new) ⟨false, 0⟩], fun K => ?_, .of ?_ ?_, ?_, by simp⟩
    · rw [appendK_some _ _ _ _ _ _ _ _ _ _ _ hm hb h2 rfl (by omega), List.drop_zero, ← h1, List.take_length]
    · have := cells_new (M.set a .dead) (cs ++ new) 0
      simpa using this
    · rw [List.length_append, h1, hnew, Nat.add_mul]
    · exact ((same_set M a .dead).trans (same_app _ _)).mono (by simp)

/-- A row that was made at once. -/
theorem rowOf_new (M : AMem) (esz n : Nat) (cs : List Value) (v c : Nat) (hl : cs.length = n * esz) :
    rowOf (M ++ [AObj.cells cs ⟨false, v⟩]) esz (.slice (some ⟨List.length M, 0, none⟩) n c) = some cs := by
  rw [rowOf_some ⟨_, get_new _ _⟩ (by omega), List.drop_zero, ← hl, List.take_length]

/-- An append of a row that was made at once: the usual one. -/
theorem append_row {M : AMem} {esz bytes n c m : Nat} {p : Option Addr} {cs new : List Value} {v : Nat} (h : Slc M esz p n c cs) (hnew : new.length = m * esz) (hm : m ≠ 0)
    (hb : n + m ≤ (281474976710656 / (bytes + 1) - 1024) / 2) :
    ∃ M', (∀ K, appendK esz bytes p n c m new (M ++ [AObj.cells new ⟨false, v⟩]) K = K (some ⟨M.length + 1, 0, none⟩) (n + m) esz M') ∧
      Slc M' esz (some ⟨M.length + 1, 0, none⟩) (n + m) esz (cs ++ new) ∧ Same M M' (blk p) ∧ M'.length = M.length + 2 := by
  have hs := same_app M [AObj.cells new ⟨false, v⟩]
  obtain ⟨M', h1, h2, h3, h4⟩ := append_own (M := M ++ [AObj.cells new ⟨false, v⟩]) (bytes := bytes) (h.same hs (by simp)) hnew hm hb
  simp only [List.length_append, List.length_cons, List.length_nil, Nat.zero_add] at h1 h2 h4
  exact ⟨M', h1, h2, (hs.trans h3).mono (by simp), by omega⟩

/-- A slice that has grown: its old block alone is lost. -/
structure Grn (M : AMem) (p : Option Addr) (M' : AMem) (p' : Option Addr) : Prop where
  same : Same M M' (blk p)
  new : ∀ b ∈ blk p', b ∈ blk p ∨ M.length ≤ b

theorem Grn.refl (M : AMem) (p : Option Addr) : Grn M p M p := ⟨.refl _ _, fun b h => .inl h⟩

theorem Grn.trans {M M1 M2 : AMem} {p p1 p2 : Option Addr} (h : Grn M p M1 p1) (k : Grn M1 p1 M2 p2) : Grn M p M2 p2 :=
  ⟨(h.same.trans k.same).mono' fun b hb hlt => by
    rcases List.mem_append.1 hb with hb | hb
    · exact hb
    · exact (h.new b hb).resolve_right (by omega),
  fun b hb => by
    rcases k.new b hb with hb | hb
    · exact h.new b hb
    · exact .inr (Nat.le_trans h.same.le hb)⟩

theorem Grn.not {M M' : AMem} {p p' : Option Addr} (h : Grn M p M' p') {b : Nat} (hb : b < M.length) (hn : b ∉ blk p) : b ∉ blk p' := fun hm => by
  rcases h.new b hm with h1 | h1
  · exact hn h1
  · omega

theorem Grn.pre {M0 M M' : AMem} {p p' : Option Addr} (h : Grn M p M' p') (k : Same M0 M []) : Grn M0 p M' p' :=
  ⟨(k.trans h.same).mono (by simp), fun b hb => by
    rcases h.new b hb with h1 | h1
    · exact .inl h1
    · exact .inr (Nat.le_trans k.le h1)⟩

theorem grn_row {M : AMem} {esz bytes n c m : Nat} {p : Option Addr} {cs new : List Value} {v : Nat} (h : Slc M esz p n c cs) (hnew : new.length = m * esz) (hm : m ≠ 0)
    (hb : n + m ≤ (281474976710656 / (bytes + 1) - 1024) / 2) :
    ∃ M', (∀ K, appendK esz bytes p n c m new (M ++ [AObj.cells new ⟨false, v⟩]) K = K (some ⟨M.length + 1, 0, none⟩) (n + m) esz M') ∧
      Slc M' esz (some ⟨M.length + 1, 0, none⟩) (n + m) esz (cs ++ new) ∧ Grn M p M' (some ⟨M.length + 1, 0, none⟩) := by
  obtain ⟨M', h1, h2, h3, h4⟩ := append_row (bytes := bytes) (v := v) h hnew hm hb
  exact ⟨M', h1, h2, h3, fun b hb => .inr (by simp at hb; omega)⟩

theorem grn_own {M : AMem} {esz bytes n c m : Nat} {p : Option Addr} {cs new : List Value} (h : Slc M esz p n c cs) (hnew : new.length = m * esz) (hm : m ≠ 0)
    (hb : n + m ≤ (281474976710656 / (bytes + 1) - 1024) / 2) :
    ∃ M', (∀ K, appendK esz bytes p n c m new M K = K (some ⟨M.length, 0, none⟩) (n + m) esz M') ∧
      Slc M' esz (some ⟨M.length, 0, none⟩) (n + m) esz (cs ++ new) ∧ Grn M p M' (some ⟨M.length, 0, none⟩) := by
  obtain ⟨M', h1, h2, h3, h4⟩ := append_own (bytes := bytes) h hnew hm hb
  exact ⟨M', h1, h2, h3, fun b hb => .inr (by simp at hb; omega)⟩

/-- What lies at a place of a row of equal parts. -/
theorem flat_get {α : Type} {k : Nat} {enc : α → List Value} (hk : ∀ x, (enc x).length = k) : ∀ (l : List α) (i j : Nat) (x : α), l[i]? = some x → j < k → (l.flatMap enc)[i * k + j]? = (enc x)[j]?
  | [], i, j, x, h, _ => by simp at h
  | y :: l, i, j, x, h, hj => by
    rw [List.flatMap_cons]
    cases i with
    | zero =>
      simp at h; subst h
      rw [List.getElem?_append_left (by rw [hk]; omega)]; simp
    | succ i =>
      rw [List.getElem?_append_right (by rw [hk, Nat.succ_mul]; omega), hk, show (i + 1) * k + j - k = i * k + j by rw [Nat.succ_mul]; omega]
      exact flat_get hk l i j x (by simpa using h) hj

theorem flatMap_length {α : Type} {k : Nat} {enc : α → List Value} (hk : ∀ x, (enc x).length = k) (l : List α) : (l.flatMap enc).length = l.length * k := by
  induction l with
  | nil => simp
  | cons x l ih => rw [List.flatMap_cons, List.length_append, ih, hk, List.length_cons, Nat.succ_mul, Nat.add_comm]

end Go.Ax
