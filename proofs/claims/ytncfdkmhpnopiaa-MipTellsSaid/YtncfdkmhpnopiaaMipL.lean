/- Pictures that are halved, doubled and cut: plain laws. -/
import Derived.Test.YtncfdkmhpnopiaaPic
set_option linter.unusedVariables false
set_option linter.unusedSimpArgs false
namespace Go.Proofs.Ytncfdkmhpnopiaa
open Go Go.Ax

def hf (n : Nat) : Nat := (n + 1) / 2
def pz : Px := ⟨0, 0, 0⟩
def gP (l : List Px) (i : Nat) : Px := l.getD i pz

theorem gP_get {l : List Px} {i : Nat} (h : i < l.length) : l[i]? = some (gP l i) := by
  rw [gP, List.getD_eq_getElem?_getD, List.getElem?_eq_getElem h]; rfl

theorem gP_fit {l : List Px} (h : ∀ x ∈ l, x.fit) (i : Nat) : (gP l i).fit := by
  by_cases hi : i < l.length
  · exact h _ (List.mem_of_getElem? (gP_get hi))
  · rw [gP, List.getD_eq_getElem?_getD, List.getElem?_eq_none (by omega)]
    decide

def mk4 (a b c d : Px) : Px := ⟨(a.r + b.r + c.r + d.r) / 4, (a.g + b.g + c.g + d.g) / 4, (a.b + b.b + c.b + d.b) / 4⟩

theorem mk4_fit {a b c d : Px} (ha : a.fit) (hb : b.fit) (hc : c.fit) (hd : d.fit) : (mk4 a b c d).fit := by
  unfold Px.fit mk4 at *; simp only; omega

theorem mk4_self (a : Px) : mk4 a a a a = a := by
  rcases a with ⟨x, y, z⟩
  simp only [mk4, Px.mk.injEq]; omega

/-- A pixel, the nearest one in the picture. -/
def atP (W H : Nat) (l : List Px) (x y : Nat) : Px := gP l (min y (H - 1) * W + min x (W - 1))

def halfP (W H : Nat) (l : List Px) (x y : Nat) : Px := mk4 (atP W H l (2 * x) (2 * y)) (atP W H l (2 * x + 1) (2 * y)) (atP W H l (2 * x) (2 * y + 1)) (atP W H l (2 * x + 1) (2 * y + 1))

/-- Pixels that are told by place, row by row. -/
def tab (w h : Nat) (f : Nat → Nat → Px) : List Px := (List.range (w * h)).map fun i => f (i % w) (i / w)

@[simp] theorem tab_length (w h : Nat) (f : Nat → Nat → Px) : (tab w h f).length = w * h := by simp [tab]

theorem tab_get {w h : Nat} {f : Nat → Nat → Px} {i : Nat} (hi : i < w * h) : (tab w h f)[i]? = some (f (i % w) (i / w)) := by
  simp [tab, List.getElem?_map, List.getElem?_range hi]

theorem tab_gP {w h : Nat} {f : Nat → Nat → Px} {x y : Nat} (hx : x < w) (hy : y < h) : gP (tab w h f) (y * w + x) = f x y := by
  have hi : y * w + x < w * h := by
    have := Nat.mul_le_mul_right w (show y + 1 ≤ h by omega)
    rw [Nat.mul_comm w h]; rw [Nat.add_mul] at this; omega
  have := tab_get (f := f) hi
  have h2 := gP_get (l := tab w h f) (i := y * w + x) (by simpa using hi)
  rw [this] at h2
  have e := Option.some.inj h2
  rw [← e]
  rw [Nat.mul_comm y w, Nat.mul_add_mod, Nat.mod_eq_of_lt hx, Nat.mul_add_div (by omega), Nat.div_eq_of_lt hx, Nat.add_zero]

theorem tab_mem {w h : Nat} {f : Nat → Nat → Px} {z : Px} (hz : z ∈ tab w h f) : ∃ x y, z = f x y := by
  simp only [tab, List.mem_map] at hz
  obtain ⟨i, _, rfl⟩ := hz
  exact ⟨_, _, rfl⟩

/-- A row is so. -/
theorem tab_ext {w h : Nat} {l : List Px} {f : Nat → Nat → Px} (hl : l.length = w * h) (e : ∀ i, i < w * h → gP l i = f (i % w) (i / w)) : l = tab w h f := by
  refine List.ext_getElem? fun i => ?_
  by_cases hi : i < w * h
  · rw [tab_get hi, gP_get (by omega), e i hi]
  · rw [List.getElem?_eq_none (by omega), List.getElem?_eq_none (by simp; omega)]

theorem tab_congr {w h : Nat} {f g : Nat → Nat → Px} (e : ∀ x y, x < w → y < h → f x y = g x y) : tab w h f = tab w h g := by
  unfold tab
  refine List.map_congr_left fun i hi => ?_
  have hi := List.mem_range.1 hi
  have hw : 0 < w := by
    rcases Nat.eq_zero_or_pos w with h0 | h0
    · subst h0; simp at hi
    · exact h0
  exact e _ _ (Nat.mod_lt _ hw) ((Nat.div_lt_iff_lt_mul hw).2 (by rw [Nat.mul_comm]; exact hi))

def halfL (W H : Nat) (l : List Px) : List Px := tab (hf W) (hf H) (halfP W H l)
def dblL (W w h : Nat) (l : List Px) : List Px := tab w h fun x y => gP l (y / 2 * W + x / 2)
def cutL (W x y w h : Nat) (l : List Px) : List Px := tab w h fun a b => gP l ((y + b) * W + (x + a))

theorem halfL_fit {W H : Nat} {l : List Px} (h : ∀ x ∈ l, x.fit) : ∀ z ∈ halfL W H l, z.fit := by
  intro z hz
  obtain ⟨x, y, rfl⟩ := tab_mem hz
  exact mk4_fit (gP_fit h _) (gP_fit h _) (gP_fit h _) (gP_fit h _)

theorem dblL_fit {W w h : Nat} {l : List Px} (hl : ∀ x ∈ l, x.fit) : ∀ z ∈ dblL W w h l, z.fit := by
  intro z hz
  obtain ⟨x, y, rfl⟩ := tab_mem hz
  exact gP_fit hl _

theorem self_tab {W H : Nat} {l : List Px} (hl : l.length = W * H) : l = tab W H fun x y => gP l (y * W + x) := by
  refine tab_ext hl fun i hi => ?_
  rw [Nat.mul_comm, Nat.div_add_mod]

theorem half_dbl {W H w h : Nat} {l : List Px} (hW : 1 ≤ W) (hH : 1 ≤ H) (hw : w = 2 * W ∨ w = 2 * W - 1) (hh : h = 2 * H ∨ h = 2 * H - 1) (hl : l.length = W * H) : halfL w h (dblL W w h l) = l := by
  have e1 : hf w = W := by unfold hf; omega
  have e2 : hf h = H := by unfold hf; omega
  have key : ∀ x y, x < 2 * W → y < 2 * H → atP w h (dblL W w h l) x y = gP l (y / 2 * W + x / 2) := by
    intro x y hx hy
    unfold atP dblL
    rw [tab_gP (by omega) (by omega)]
    congr 1
    have a : min y (h - 1) / 2 = y / 2 := by omega
    have b : min x (w - 1) / 2 = x / 2 := by omega
    rw [a, b]
  rw [halfL, e1, e2]
  conv => rhs; rw [self_tab hl]
  refine tab_congr fun x y hx hy => ?_
  unfold halfP
  rw [key _ _ (by omega) (by omega), key _ _ (by omega) (by omega), key _ _ (by omega) (by omega), key _ _ (by omega) (by omega)]
  rw [show 2 * y / 2 = y by omega, show 2 * x / 2 = x by omega, show (2 * x + 1) / 2 = x by omega, show (2 * y + 1) / 2 = y by omega, mk4_self]

/-- A picture and its halves. -/
def pyr (W H : Nat) (l : List Px) : List (Nat × Nat × List Px) :=
  (W, H, l) :: if h : 1 < W ∨ 1 < H then pyr (hf W) (hf H) (halfL W H l) else []
termination_by W + H
decreasing_by unfold hf; omega

theorem pyr_eq (W H : Nat) (l : List Px) : pyr W H l = (W, H, l) :: if 1 < W ∨ 1 < H then pyr (hf W) (hf H) (halfL W H l) else [] := by
  rw [pyr]; split <;> simp_all

/-- How many pictures a pyramid has. -/
def lev (W H : Nat) : Nat := if h : 1 < W ∨ 1 < H then 1 + lev (hf W) (hf H) else 1
termination_by W + H
decreasing_by unfold hf; omega

theorem lev_eq (W H : Nat) : lev W H = if 1 < W ∨ 1 < H then 1 + lev (hf W) (hf H) else 1 := by
  rw [lev]; split <;> simp_all

theorem pyr_length : ∀ (W H : Nat) (l : List Px), (pyr W H l).length = lev W H
  | W, H, l => by
    rw [pyr_eq, lev_eq]
    by_cases h : 1 < W ∨ 1 < H
    · rw [if_pos h, if_pos h, List.length_cons, pyr_length (hf W) (hf H)]; omega
    · rw [if_neg h, if_neg h]; rfl
termination_by W H => W + H
decreasing_by unfold hf; omega

end Go.Proofs.Ytncfdkmhpnopiaa
