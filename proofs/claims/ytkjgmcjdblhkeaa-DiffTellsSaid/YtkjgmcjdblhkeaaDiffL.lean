/- How unlike rows of pixels are: plain laws. -/
import Derived.Test.YtkjgmcjdblhkeaaPic
set_option linter.unusedVariables false
set_option linter.unusedSimpArgs false
namespace Go.Proofs.Ytkjgmcjdblhkeaa
open Go Go.Ax

def far (x y : Int) : Int := max (x - y) (y - x)

theorem far_nonneg (x y : Int) : 0 ≤ far x y := by unfold far; omega
theorem far_comm (x y : Int) : far x y = far y x := by unfold far; omega
theorem far_self (x : Int) : far x x = 0 := by unfold far; omega
theorem far_zero {x y : Int} (h : far x y = 0) : x = y := by unfold far at h; omega
theorem far_tri (x y z : Int) : far x z ≤ far x y + far y z := by unfold far; omega

def pn (x y : Px) : Int := if x = y then 0 else 1
def pm (x y : Px) : Int := max (max (far x.r y.r) (far x.g y.g)) (far x.b y.b)
def pa (x y : Px) : Int := far x.r y.r + far x.g y.g + far x.b y.b
def pq (x y : Px) : Int := far x.r y.r * far x.r y.r + far x.g y.g * far x.g y.g + far x.b y.b * far x.b y.b

def nL : List Px → List Px → Int
  | x :: l, y :: k => pn x y + nL l k
  | _, _ => 0
def mL : List Px → List Px → Int
  | x :: l, y :: k => max (pm x y) (mL l k)
  | _, _ => 0
def aL : List Px → List Px → Int
  | x :: l, y :: k => pa x y + aL l k
  | _, _ => 0
def qL : List Px → List Px → Int
  | x :: l, y :: k => pq x y + qL l k
  | _, _ => 0

structure Sm where
  n : Int
  m : Int
  a : Int
  q : Int
deriving DecidableEq

def smL (l k : List Px) : Sm := ⟨nL l k, mL l k, aL l k, qL l k⟩

theorem pn_comm (x y : Px) : pn x y = pn y x := by unfold pn; by_cases h : x = y <;> simp [h, eq_comm]
theorem pm_comm (x y : Px) : pm x y = pm y x := by unfold pm; rw [far_comm x.r, far_comm x.g, far_comm x.b]
theorem pa_comm (x y : Px) : pa x y = pa y x := by unfold pa; rw [far_comm x.r, far_comm x.g, far_comm x.b]
theorem pq_comm (x y : Px) : pq x y = pq y x := by unfold pq; rw [far_comm x.r, far_comm x.g, far_comm x.b]

theorem smL_comm : ∀ l k : List Px, smL l k = smL k l
  | [], [] => rfl
  | [], _ :: _ => rfl
  | _ :: _, [] => rfl
  | x :: l, y :: k => by
    have := smL_comm l k
    simp only [smL, Sm.mk.injEq, nL, mL, aL, qL] at this ⊢
    rw [pn_comm, pm_comm, pa_comm, pq_comm, this.1, this.2.1, this.2.2.1, this.2.2.2]
    simp

theorem pn_nonneg (x y : Px) : 0 ≤ pn x y := by unfold pn; split <;> omega
theorem pm_nonneg (x y : Px) : 0 ≤ pm x y := by have := far_nonneg x.r y.r; unfold pm; omega
theorem pa_nonneg (x y : Px) : 0 ≤ pa x y := by have := far_nonneg x.r y.r; have := far_nonneg x.g y.g; have := far_nonneg x.b y.b; unfold pa; omega
theorem pq_nonneg (x y : Px) : 0 ≤ pq x y := by
  have := Int.mul_nonneg (far_nonneg x.r y.r) (far_nonneg x.r y.r)
  have := Int.mul_nonneg (far_nonneg x.g y.g) (far_nonneg x.g y.g)
  have := Int.mul_nonneg (far_nonneg x.b y.b) (far_nonneg x.b y.b)
  unfold pq; omega

theorem nL_nonneg : ∀ l k : List Px, 0 ≤ nL l k
  | [], _ => by simp [nL]
  | _ :: _, [] => by simp [nL]
  | x :: l, y :: k => by have := nL_nonneg l k; have := pn_nonneg x y; simp only [nL]; omega
theorem mL_nonneg : ∀ l k : List Px, 0 ≤ mL l k
  | [], _ => by simp [mL]
  | _ :: _, [] => by simp [mL]
  | x :: l, y :: k => by have := mL_nonneg l k; have := pm_nonneg x y; simp only [mL]; omega
theorem aL_nonneg : ∀ l k : List Px, 0 ≤ aL l k
  | [], _ => by simp [aL]
  | _ :: _, [] => by simp [aL]
  | x :: l, y :: k => by have := aL_nonneg l k; have := pa_nonneg x y; simp only [aL]; omega
theorem qL_nonneg : ∀ l k : List Px, 0 ≤ qL l k
  | [], _ => by simp [qL]
  | _ :: _, [] => by simp [qL]
  | x :: l, y :: k => by have := qL_nonneg l k; have := pq_nonneg x y; simp only [qL]; omega

theorem smL_self : ∀ l : List Px, smL l l = ⟨0, 0, 0, 0⟩
  | [] => rfl
  | x :: l => by
    have := smL_self l
    simp only [smL, Sm.mk.injEq, nL, mL, aL, qL] at this ⊢
    rw [this.1, this.2.1, this.2.2.1, this.2.2.2]
    simp [pn, pm, pa, pq, far_self]

theorem nL_zero : ∀ {l k : List Px}, l.length = k.length → nL l k = 0 → l = k
  | [], [], _, _ => rfl
  | [], _ :: _, h, _ => by simp at h
  | _ :: _, [], h, _ => by simp at h
  | x :: l, y :: k, h, e => by
    have h1 := nL_nonneg l k
    have h2 := pn_nonneg x y
    simp only [nL] at e
    have e1 : nL l k = 0 := by omega
    have e2 : pn x y = 0 := by omega
    have : x = y := by unfold pn at e2; by_cases hx : x = y; exact hx; simp [hx] at e2
    rw [this, nL_zero (by simpa using h) e1]

theorem smL_zero {l k : List Px} (h : l.length = k.length) : smL l k = ⟨0, 0, 0, 0⟩ ↔ l = k :=
  ⟨fun e => nL_zero h (by simp only [smL, Sm.mk.injEq] at e; exact e.1), fun e => by rw [e, smL_self]⟩

theorem tri_n : ∀ l k m : List Px, l.length = k.length → k.length = m.length → nL l m ≤ nL l k + nL k m
  | [], [], [], _, _ => by simp [nL]
  | x :: l, y :: k, z :: m, h1, h2 => by
    have := tri_n l k m (by simpa using h1) (by simpa using h2)
    have : pn x z ≤ pn x y + pn y z := by
      unfold pn
      by_cases a : x = y
      · subst a; simp
      · simp only [a, if_false]; split <;> split <;> omega
    simp only [nL]; omega
  | [], _ :: _, _, h, _ => by simp at h
  | _ :: _, [], _, h, _ => by simp at h
  | _, [], _ :: _, _, h => by simp at h
  | _, _ :: _, [], _, h => by simp at h

theorem tri_a : ∀ l k m : List Px, l.length = k.length → k.length = m.length → aL l m ≤ aL l k + aL k m
  | [], [], [], _, _ => by simp [aL]
  | x :: l, y :: k, z :: m, h1, h2 => by
    have := tri_a l k m (by simpa using h1) (by simpa using h2)
    have := far_tri x.r y.r z.r
    have := far_tri x.g y.g z.g
    have := far_tri x.b y.b z.b
    simp only [aL, pa]; omega
  | [], _ :: _, _, h, _ => by simp at h
  | _ :: _, [], _, h, _ => by simp at h
  | _, [], _ :: _, _, h => by simp at h
  | _, _ :: _, [], _, h => by simp at h

theorem tri_m : ∀ l k m : List Px, l.length = k.length → k.length = m.length → mL l m ≤ mL l k + mL k m
  | [], [], [], _, _ => by simp [mL]
  | x :: l, y :: k, z :: m, h1, h2 => by
    have := tri_m l k m (by simpa using h1) (by simpa using h2)
    have := far_tri x.r y.r z.r
    have := far_tri x.g y.g z.g
    have := far_tri x.b y.b z.b
    simp only [mL, pm]; omega
  | [], _ :: _, _, h, _ => by simp at h
  | _ :: _, [], _, h, _ => by simp at h
  | _, [], _ :: _, _, h => by simp at h
  | _, _ :: _, [], _, h => by simp at h

theorem sq_le {u M : Int} (h0 : 0 ≤ u) (h : u ≤ M) : u * u ≤ M * M := Int.mul_le_mul h h h0 (by omega)

theorem m_q : ∀ l k : List Px, mL l k * mL l k ≤ qL l k
  | [], _ => by simp [mL, qL]
  | _ :: _, [] => by simp [mL, qL]
  | x :: l, y :: k => by
    have h := m_q l k
    have a0 := Int.mul_nonneg (far_nonneg x.r y.r) (far_nonneg x.r y.r)
    have a1 := Int.mul_nonneg (far_nonneg x.g y.g) (far_nonneg x.g y.g)
    have a2 := Int.mul_nonneg (far_nonneg x.b y.b) (far_nonneg x.b y.b)
    have a3 := qL_nonneg l k
    have hc : mL (x :: l) (y :: k) = far x.r y.r ∨ mL (x :: l) (y :: k) = far x.g y.g ∨ mL (x :: l) (y :: k) = far x.b y.b ∨ mL (x :: l) (y :: k) = mL l k := by
      simp only [mL, pm]; omega
    simp only [qL, pq]
    rcases hc with e | e | e | e <;> rw [e] <;> omega

theorem q_ma {M : Int} : ∀ l k : List Px, mL l k ≤ M → qL l k ≤ M * aL l k
  | [], _, _ => by simp [aL, qL]
  | _ :: _, [], _ => by simp [aL, qL]
  | x :: l, y :: k, h => by
    simp only [mL, pm] at h
    have i := q_ma l k (M := M) (by omega)
    have b0 := Int.mul_le_mul_of_nonneg_right (show far x.r y.r ≤ M by omega) (far_nonneg x.r y.r)
    have b1 := Int.mul_le_mul_of_nonneg_right (show far x.g y.g ≤ M by omega) (far_nonneg x.g y.g)
    have b2 := Int.mul_le_mul_of_nonneg_right (show far x.b y.b ≤ M by omega) (far_nonneg x.b y.b)
    simp only [qL, pq, aL, pa, Int.mul_add]
    omega

theorem q_len {M : Int} : ∀ l k : List Px, mL l k ≤ M → qL l k ≤ 3 * (l.length : Int) * (M * M)
  | [], _, _ => by simp [qL]
  | x :: l, [], h => by
    simp only [qL]
    have : 0 ≤ M * M := by
      simp only [mL] at h
      exact Int.mul_nonneg h h
    exact Int.mul_nonneg (by omega) this
  | x :: l, y :: k, h => by
    simp only [mL, pm] at h
    have i := q_len l k (M := M) (by omega)
    have b0 := sq_le (far_nonneg x.r y.r) (show far x.r y.r ≤ M by omega)
    have b1 := sq_le (far_nonneg x.g y.g) (show far x.g y.g ≤ M by omega)
    have b2 := sq_le (far_nonneg x.b y.b) (show far x.b y.b ≤ M by omega)
    have e : 3 * ((x :: l).length : Int) * (M * M) = 3 * (l.length : Int) * (M * M) + 3 * (M * M) := by
      rw [List.length_cons, Int.natCast_succ, Int.mul_add, Int.add_mul]; rfl
    simp only [qL, pq]
    omega

/-! ### what is between -/

def mixN (p x y : Int) : Int := (x * (1000 - p) + y * p) / 1000
def mixP (p : Int) (x y : Px) : Px := ⟨mixN p x.r y.r, mixN p x.g y.g, mixN p x.b y.b⟩
def mixL (p : Int) (l k : List Px) : List Px := List.zipWith (mixP p) l k

theorem mixN_between {p x y : Int} (hp : 0 ≤ p ∧ p ≤ 1000) : (x ≤ y → x ≤ mixN p x y ∧ mixN p x y ≤ y) ∧ (y ≤ x → y ≤ mixN p x y ∧ mixN p x y ≤ x) := by
  have e : x * (1000 - p) + y * p = 1000 * x + (y - x) * p := by rw [Int.mul_sub, Int.sub_mul]; omega
  have e2 : x * (1000 - p) + y * p = 1000 * x - (x - y) * p := by rw [Int.mul_sub, Int.sub_mul]; omega
  unfold mixN
  refine ⟨fun h => ?_, fun h => ?_⟩
  · have h1 : 0 ≤ (y - x) * p := Int.mul_nonneg (by omega) hp.1
    have h2 : (y - x) * p ≤ (y - x) * 1000 := Int.mul_le_mul_of_nonneg_left hp.2 (by omega)
    rw [e]; omega
  · have h1 : 0 ≤ (x - y) * p := Int.mul_nonneg (by omega) hp.1
    have h2 : (x - y) * p ≤ (x - y) * 1000 := Int.mul_le_mul_of_nonneg_left hp.2 (by omega)
    rw [e2]; omega

theorem mixN_far {p x y : Int} (hp : 0 ≤ p ∧ p ≤ 1000) : far x (mixN p x y) ≤ far x y := by
  have := mixN_between (x := x) (y := y) hp
  by_cases h : x ≤ y
  · have := this.1 h; unfold far; omega
  · have := this.2 (by omega); unfold far; omega

theorem mixP_fit {p : Int} (hp : 0 ≤ p ∧ p ≤ 1000) {x y : Px} (hx : x.fit) (hy : y.fit) : (mixP p x y).fit := by
  have a0 := mixN_between (x := x.r) (y := y.r) hp
  have a1 := mixN_between (x := x.g) (y := y.g) hp
  have a2 := mixN_between (x := x.b) (y := y.b) hp
  unfold Px.fit at hx hy ⊢
  unfold mixP
  simp only
  refine ⟨?_, ?_, ?_⟩
  · by_cases h : x.r ≤ y.r
    · have := a0.1 h; omega
    · have := a0.2 (by omega); omega
  · by_cases h : x.g ≤ y.g
    · have := a1.1 h; omega
    · have := a1.2 (by omega); omega
  · by_cases h : x.b ≤ y.b
    · have := a2.1 h; omega
    · have := a2.2 (by omega); omega

theorem mixL_length {p : Int} {l k : List Px} (h : l.length = k.length) : (mixL p l k).length = l.length := by simp [mixL, h]

theorem mixL_far {p : Int} (hp : 0 ≤ p ∧ p ≤ 1000) : ∀ l k : List Px, mL l (mixL p l k) ≤ mL l k
  | [], _ => by simp [mL, mixL]
  | _ :: _, [] => by simp [mL, mixL]
  | x :: l, y :: k => by
    have := mixL_far hp l k
    have := mixN_far (x := x.r) (y := y.r) hp
    have := mixN_far (x := x.g) (y := y.g) hp
    have := mixN_far (x := x.b) (y := y.b) hp
    simp only [mixL, List.zipWith_cons_cons, mL, pm, mixP] at *
    omega

theorem mixL_fit {p : Int} (hp : 0 ≤ p ∧ p ≤ 1000) : ∀ l k : List Px, (∀ x ∈ l, x.fit) → (∀ x ∈ k, x.fit) → ∀ x ∈ mixL p l k, x.fit
  | [], _, _, _ => by simp [mixL]
  | _ :: _, [], _, _ => by simp [mixL]
  | x :: l, y :: k, h1, h2 => by
    intro z hz
    simp only [mixL, List.zipWith_cons_cons, List.mem_cons] at hz
    rcases hz with rfl | hz
    · exact mixP_fit hp (h1 x (by simp)) (h2 y (by simp))
    · exact mixL_fit hp l k (fun w hw => h1 w (by simp [hw])) (fun w hw => h2 w (by simp [hw])) z hz

theorem mixL_0 : ∀ l k : List Px, l.length = k.length → mixL 0 l k = l
  | [], _, _ => rfl
  | _ :: _, [], h => by simp at h
  | x :: l, y :: k, h => by
    have := mixL_0 l k (by simpa using h)
    simp only [mixL, List.zipWith_cons_cons] at this ⊢
    rw [this]
    congr 1
    rcases x with ⟨a, b, c⟩
    simp only [mixP, mixN, Px.mk.injEq]
    omega

theorem mixL_1000 : ∀ l k : List Px, l.length = k.length → mixL 1000 l k = k
  | [], [], _ => rfl
  | [], _ :: _, h => by simp at h
  | _ :: _, [], h => by simp at h
  | x :: l, y :: k, h => by
    have := mixL_1000 l k (by simpa using h)
    simp only [mixL, List.zipWith_cons_cons] at this ⊢
    rw [this]
    congr 1
    rcases y with ⟨a, b, c⟩
    simp only [mixP, mixN, Px.mk.injEq]
    omega

/-! ### where they are unlike, and what is applied -/

def whL : Nat → List Px → List Px → List Int
  | i, x :: l, y :: k => if x = y then whL (i + 1) l k else (i : Int) :: whL (i + 1) l k
  | _, _, _ => []

def apL : Nat → List Px → List Px → List Int → List Px
  | i, x :: l, y :: k, w => (if (i : Int) ∈ w then y else x) :: apL (i + 1) l k w
  | _, _, _, _ => []

theorem apL_length : ∀ (i : Nat) (l k : List Px) (w : List Int), l.length = k.length → (apL i l k w).length = l.length
  | _, [], _, _, _ => by simp [apL]
  | _, _ :: _, [], _, h => by simp at h
  | i, x :: l, y :: k, w, h => by simp [apL, apL_length (i + 1) l k w (by simpa using h)]

theorem apL_get : ∀ (i : Nat) (l k : List Px) (w : List Int) (j : Nat), l.length = k.length → (apL i l k w)[j]? = if ((i + j : Nat) : Int) ∈ w then k[j]? else l[j]?
  | _, [], [], _, _, _ => by simp [apL]
  | _, [], _ :: _, _, _, h => by simp at h
  | _, _ :: _, [], _, _, h => by simp at h
  | i, x :: l, y :: k, w, 0, h => by
    simp only [apL, Nat.add_zero, List.getElem?_cons_zero]
    split <;> rfl
  | i, x :: l, y :: k, w, j + 1, h => by
    simp only [apL, List.getElem?_cons_succ]
    rw [apL_get (i + 1) l k w j (by simpa using h), show i + 1 + j = i + (j + 1) by omega]

theorem apL_nil (i : Nat) (l k : List Px) (h : l.length = k.length) : apL i l k [] = l := by
  refine List.ext_getElem? fun j => ?_
  rw [apL_get i l k [] j h]; simp

theorem whL_ge : ∀ (i : Nat) (l k : List Px) (n : Int), n ∈ whL i l k → (i : Int) ≤ n
  | _, [], _, _, h => by simp [whL] at h
  | _, _ :: _, [], _, h => by simp [whL] at h
  | i, x :: l, y :: k, n, h => by
    simp only [whL] at h
    split at h
    · have := whL_ge (i + 1) l k n h; omega
    · rcases List.mem_cons.1 h with h | h
      · omega
      · have := whL_ge (i + 1) l k n h; omega

theorem apL_weak : ∀ (i : Nat) (l k : List Px) (w : List Int) (n : Int), n < i → apL i l k (n :: w) = apL i l k w
  | _, [], _, _, _, _ => by simp [apL]
  | _, _ :: _, [], _, _, _ => by simp [apL]
  | i, x :: l, y :: k, w, n, h => by
    simp only [apL]
    rw [apL_weak (i + 1) l k w n (by omega)]
    have : (i : Int) ≠ n := by omega
    simp [this]

theorem apL_where : ∀ (i : Nat) (l k : List Px), l.length = k.length → apL i l k (whL i l k) = k
  | _, [], [], _ => rfl
  | _, [], _ :: _, h => by simp at h
  | _, _ :: _, [], h => by simp at h
  | i, x :: l, y :: k, h => by
    have ih := apL_where (i + 1) l k (by simpa using h)
    by_cases e : x = y
    · subst e
      simp only [whL, if_true, apL, ih]
      split <;> rfl
    · simp only [whL, e, if_false, apL, List.mem_cons, true_or, if_true]
      rw [apL_weak _ _ _ _ _ (by omega), ih]

theorem whL_length : ∀ (i : Nat) (l k : List Px), (whL i l k).length ≤ l.length
  | _, [], _ => by simp [whL]
  | _, _ :: _, [] => by simp [whL]
  | i, x :: l, y :: k => by
    have := whL_length (i + 1) l k
    simp only [whL]
    split <;> simp <;> omega

theorem apL_step {l k : List Px} {w : List Int} (h : l.length = k.length) {n : Nat} {y : Px} (hy : k[n]? = some y) : (apL 0 l k w).set n y = apL 0 l k (w ++ [(n : Int)]) := by
  refine List.ext_getElem? fun j => ?_
  have hn : n < l.length := by rw [h]; exact (List.getElem?_eq_some_iff.1 hy).1
  rw [List.getElem?_set, apL_get 0 l k _ j h, apL_get 0 l k _ j h, apL_length 0 l k w h]
  simp only [Nat.zero_add, List.mem_append, List.mem_singleton]
  by_cases e : n = j
  · subst e
    simp [hn, hy]
  · have : ¬ ((j : Int) = (n : Int)) := by omega
    simp [e, this]

theorem apL_out {l k : List Px} {w : List Int} (h : l.length = k.length) {n : Int} (hn : ¬ (0 ≤ n ∧ n < (k.length : Int))) : apL 0 l k w = apL 0 l k (w ++ [n]) := by
  refine List.ext_getElem? fun j => ?_
  rw [apL_get 0 l k _ j h, apL_get 0 l k _ j h]
  simp only [Nat.zero_add, List.mem_append, List.mem_singleton]
  by_cases e : (j : Int) = n
  · have h1 : k[j]? = none := by rw [List.getElem?_eq_none_iff]; omega
    have h2 : l[j]? = none := by rw [List.getElem?_eq_none_iff]; omega
    simp [h1, h2]
  · simp [e]

end Go.Proofs.Ytkjgmcjdblhkeaa
