/- Choices of jobs as numbers, and the sums of the films: the plain law. -/
import Derived.Test.YtpnknolehckfhaaWhlP
set_option linter.unusedVariables false
set_option linter.unusedSimpArgs false
namespace Go.Proofs.Ytpnknolehckfhaa
open Go Go.Ax

/-- The jobs that may be, with their places. -/
def kjf (p s : Int) : Nat → List Jb → List (Nat × Jb)
  | _, [] => []
  | i, j :: js => if okJ p s j = true then (i, j) :: kjf p s (i + 1) js else kjf p s (i + 1) js

theorem kjf_snoc (p s : Int) : ∀ (js : List Jb) (i : Nat) (j : Jb), kjf p s i (js ++ [j]) = kjf p s i js ++ if okJ p s j = true then [(i + js.length, j)] else []
  | [], i, j => by
    simp only [List.nil_append, kjf, List.length_nil, Nat.add_zero]
  | a :: js, i, j => by
    have := kjf_snoc p s js (i + 1) j
    simp only [List.cons_append, kjf, this, List.length_cons]
    rw [show i + 1 + js.length = i + (js.length + 1) by omega]
    split <;> simp

/-- Flushes of jobs, each at its place. -/
structure Wk (p s : Int) (kj : List (Nat × Jb)) (l : List Fl) : Prop where
  len : l.length = kj.length
  jo : ∀ (j : Nat) x a, l[j]? = some x → kj[j]? = some a → Jo p s x.s a.2.st a.2.es

theorem Wk.jl {p s : Int} {kj : List (Nat × Jb)} {l : List Fl} (h : Wk p s kj l) : JL p s l := fun x hx => by
  obtain ⟨j, hj⟩ := List.getElem?_of_mem hx
  obtain ⟨a, ha⟩ : ∃ a, kj[j]? = some a := ⟨_, List.getElem?_eq_getElem (by have := (List.getElem?_eq_some_iff.1 hj).1; rw [← h.len]; exact this)⟩
  exact ⟨_, _, h.jo j x a hj ha⟩

theorem Wk.back {p s : Int} {kj : List (Nat × Jb)} {l l' : List Fl} (h : Wk p s kj l') (k : Le l l') : Wk p s kj l := ⟨k.len.trans h.len, fun j x a hx ha => by
  obtain ⟨x', hx'⟩ := k.getx hx
  obtain ⟨e, n⟩ := k.le j x x' hx hx'
  obtain ⟨h1, h2, h3⟩ := h.jo j x' a hx' ha
  exact ⟨h1, by rw [e]; exact h2, by rw [e]; omega⟩⟩

theorem Wk.fwd {p s : Int} {kj : List (Nat × Jb)} {l l' : List Fl} (h : Wk p s kj l) (k : Le l l') (hn : ∀ x ∈ l', x.s.nx ≤ x.s.adds.length) : Wk p s kj l' := ⟨k.len.symm.trans h.len, fun j x' a hx' ha => by
  obtain ⟨x, hx⟩ : ∃ x, l[j]? = some x := ⟨_, List.getElem?_eq_getElem (by have := (List.getElem?_eq_some_iff.1 hx').1; rw [k.len]; exact this)⟩
  obtain ⟨e, n⟩ := k.le j x x' hx hx'
  obtain ⟨h1, h2, h3⟩ := h.jo j x a hx ha
  exact ⟨h1, by rw [← e]; exact h2, hn x' (List.mem_of_getElem? hx')⟩⟩

/-- Some of them, as a number. -/
def msk (p s : Int) (f : Fl → Bool) : List Jb → List Fl → Nat
  | [], _ => 0
  | j :: js, l => if okJ p s j = true then (match l with | x :: l' => (f x).toNat + 2 * msk p s f js l' | [] => 0) else (false).toNat + 2 * msk p s f js l

theorem msk_lt (p s : Int) (f : Fl → Bool) : ∀ (js : List Jb) (l : List Fl), msk p s f js l < 2 ^ js.length
  | [], l => by simp [msk]
  | j :: js, l => by
    have hp := Nat.two_pow_pos js.length
    simp only [msk, List.length_cons, Nat.pow_succ]
    split
    · cases l with
      | nil => simp only; omega
      | cons x l =>
        have := msk_lt p s f js l
        have hb : (f x).toNat ≤ 1 := Bool.toNat_le _
        simp only
        omega
    · have := msk_lt p s f js l
      simp only [Bool.toNat_false]
      omega

theorem and2 (a b : Bool) (m n : Nat) : (a.toNat + 2 * m) &&& (b.toNat + 2 * n) = (a && b).toNat + 2 * (m &&& n) := by
  apply Nat.eq_of_testBit_eq
  intro i
  rw [Nat.testBit_and]
  have hd : ∀ (c : Bool) (k : Nat), (c.toNat + 2 * k) / 2 = k ∧ (c.toNat + 2 * k) % 2 = c.toNat := fun c k => by cases c <;> simp <;> omega
  cases i with
  | zero =>
    rw [Nat.testBit_zero, Nat.testBit_zero, Nat.testBit_zero, (hd a m).2, (hd b n).2, (hd (a && b) _).2]
    cases a <;> cases b <;> rfl
  | succ i =>
    rw [Nat.testBit_succ, Nat.testBit_succ, Nat.testBit_succ, (hd a m).1, (hd b n).1, (hd (a && b) _).1, Nat.testBit_and]

theorem msk_and (p s : Int) (f g h : Fl → Bool) : ∀ (js : List Jb) (l l' l'' : List Fl), l.length = l'.length → l.length = l''.length → (∀ (j : Nat) x y z, l[j]? = some x → l'[j]? = some y → l''[j]? = some z → (f x && g y) = h z) → msk p s f js l &&& msk p s g js l' = msk p s h js l''
  | [], l, l', l'', _, _, _ => by simp [msk]
  | j :: js, l, l', l'', h1, h2, hh => by
    simp only [msk]
    by_cases c : okJ p s j = true
    · simp only [c, if_true]
      cases l with
      | nil =>
        cases l' with
        | nil => cases l'' with
          | nil => simp
          | cons _ _ => simp at h2
        | cons _ _ => simp at h1
      | cons x l => cases l' with
        | nil => simp at h1
        | cons y l' => cases l'' with
          | nil => simp at h2
          | cons z l'' =>
            have ih := msk_and p s f g h js l l' l'' (by simpa using h1) (by simpa using h2) fun j x y z hx hy hz => hh (j + 1) x y z (by simpa using hx) (by simpa using hy) (by simpa using hz)
            simp only
            rw [and2, ih, hh 0 x y z rfl rfl rfl]
    · rw [if_neg c, if_neg c, if_neg c, and2, msk_and p s f g h js l l' l'' h1 h2 hh]
      rfl

theorem msk_zero (p s : Int) : ∀ (js : List Jb) (l : List Fl), msk p s (fun _ => false) js l = 0
  | [], l => rfl
  | j :: js, l => by
    simp only [msk]
    cases l with
    | nil => rw [msk_zero p s js []]; split <;> rfl
    | cons x l => simp only [msk_zero p s js]; split <;> rfl

/-- What a choice adds to a film. -/
def enF (e : En) : List (Int × Int) := [(3 * e.px, e.w0), (3 * e.px + 1, e.w1), (3 * e.px + 2, e.w2)]

def wadds (p s : Int) (k : Nat) : Nat → List Jb → List (Int × Int)
  | _, [] => []
  | i, j :: js => (if okJ p s j = true ∧ k.testBit i = true then j.es.flatMap enF else []) ++ wadds p s k (i + 1) js

theorem wadds_snoc (p s : Int) (k : Nat) : ∀ (js : List Jb) (i : Nat) (j : Jb), wadds p s k i (js ++ [j]) = wadds p s k i js ++ if okJ p s j = true ∧ k.testBit (i + js.length) = true then j.es.flatMap enF else []
  | [], i, j => by simp [wadds]
  | a :: js, i, j => by
    have := wadds_snoc p s k js (i + 1) j
    simp only [List.cons_append, wadds, this, List.length_cons, List.append_assoc]
    rw [show i + 1 + js.length = i + (js.length + 1) by omega]

theorem wsum_enF {S : Nat} {s : Int} (hS : s = (S : Int)) (c : Nat) : ∀ es : List En, wsum (mid s es) (1 + 2 * S + c) = wsum (es.flatMap enF) c
  | [] => rfl
  | e :: es => by
    have ih := wsum_enF hS c es
    unfold mid at ih ⊢
    rw [List.flatMap_cons, List.flatMap_cons, wsum_app, wsum_app, ih]
    congr 1
    have one : ∀ (k : Nat) (w : Int), wsum (chAdd s e.px k w) (1 + 2 * S + c) = if 3 * e.px + (k : Int) = (c : Int) then w else 0 := fun k w => by
      unfold chAdd
      by_cases hw : w = 0
      · rw [if_pos hw, hw]
        split <;> rfl
      · rw [if_neg hw, wsum_cons, wsum_nil]
        by_cases hc : 3 * e.px + (k : Int) = (c : Int)
        · rw [if_pos (by simp only; omega), if_pos hc]; omega
        · rw [if_neg (by simp only; omega), if_neg hc]; rfl
    unfold enAdds enF
    rw [wsum_app, wsum_app, one, one, one, wsum_cons, wsum_cons, wsum_cons, wsum_nil]
    simp only [Int.ofNat_zero, Int.add_zero]
    have e0 : ((0 : Nat) : Int) = 0 := rfl
    have e1 : ((1 : Nat) : Int) = 1 := rfl
    have e2 : ((2 : Nat) : Int) = 2 := rfl
    rw [e1, e2, Int.add_assoc]

def done? (x : Fl) : Bool := decide (x.s.adds.length = x.s.nx)

/-- The film of the flushes that are done is the sum of the choice of them. -/
theorem film_is {p s : Int} {S : Nat} (hS : s = (S : Int)) (c : Nat) : ∀ (js : List Jb) (i k : Nat) (l : List Fl), Wk p s (kjf p s i js) l → Qt l → (∀ n, k.testBit (i + n) = (msk p s done? js l).testBit n) → cB l (1 + 2 * S + c) = wsum (wadds p s k i js) c
  | [], i, k, l, h, hq, hk => by
    have : l = [] := by have := h.len; simpa [kjf] using this
    subst this
    rfl
  | j :: js, i, k, l, h, hq, hk => by
    have hd : ∀ (c : Bool) (k : Nat), (c.toNat + 2 * k) / 2 = k ∧ (c.toNat + 2 * k) % 2 = c.toNat := fun c k => by cases c <;> simp <;> omega
    simp only [wadds]
    rw [wsum_app]
    by_cases ok : okJ p s j = true
    · have hl := h.len
      have hjo := h.jo
      simp only [kjf, ok, if_true, List.length_cons] at hl hjo
      cases l with
      | nil => simp at hl
      | cons x l =>
        have h0 := hjo 0 x (i, j) rfl rfl
        have hb := hk 0
        simp only [msk, ok, if_true] at hk hb
        rw [Nat.testBit_zero, (hd _ _).2, Nat.add_zero] at hb
        have ih := film_is hS c js (i + 1) k l ⟨by simpa using hl, fun j x a hx ha => hjo (j + 1) x a (by simpa using hx) (by simpa using ha)⟩ (fun y hy => hq y (by simp [hy])) fun n => by
          have := hk (n + 1)
          rw [Nat.testBit_succ, (hd _ _).1] at this
          rw [← this]
          congr 1
          omega
        unfold cB at ih ⊢
        rw [List.map_cons, List.sum_cons, ih]
        congr 1
        rcases hq x (by simp) with h1 | h1
        · have hpos : x.s.adds.length ≠ 0 := by rw [h0.ad]; simp [flAdds]
          have : done? x = false := decide_eq_false (by omega)
          rw [this] at hb
          rw [if_neg (fun h => by rw [h.2] at hb; simp at hb)]
          unfold dn
          rw [h1]; rfl
        · have : done? x = true := decide_eq_true h1.symm
          rw [this] at hb
          rw [if_pos ⟨ok, by rw [hb]; rfl⟩, wsum_f h0 hS c h1, wsum_enF hS]
    · have hl := h.len
      have hjo := h.jo
      simp only [kjf, ok] at hl hjo
      rw [if_neg (fun h => ok h.1), wsum_nil, Int.zero_add]
      refine film_is hS c js (i + 1) k l ⟨by simpa using hl, by simpa using hjo⟩ hq fun n => ?_
      have := hk (n + 1)
      simp only [msk] at this
      rw [if_neg ok, Nat.testBit_succ, (hd _ _).1] at this
      rw [← this]
      congr 1
      omega

end Go.Proofs.Ytpnknolehckfhaa
