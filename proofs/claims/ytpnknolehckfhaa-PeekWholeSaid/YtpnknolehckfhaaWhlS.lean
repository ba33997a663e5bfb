/- Who is done, who has not begun, as numbers; is none under way. -/
import Derived.Test.YtpnknolehckfhaaWhlM
set_option linter.unusedVariables false
set_option linter.unusedSimpArgs false
namespace Go.Proofs.Ytpnknolehckfhaa
open Go Go.Ax

def sm (f : Fl → Bool) : List Fl → List (Nat × Jb) → Nat
  | x :: l, a :: kj => (if f x = true then 2 ^ a.1 else 0) + sm f l kj
  | _, _ => 0

theorem sm_msk (p s : Int) (f : Fl → Bool) : ∀ (js : List Jb) (i : Nat) (l : List Fl), l.length = (kjf p s i js).length → sm f l (kjf p s i js) = 2 ^ i * msk p s f js l
  | [], i, l, h => by
    have : l = [] := by simpa [kjf] using h
    subst this; rfl
  | j :: js, i, l, h => by
    simp only [kjf, msk] at h ⊢
    by_cases c : okJ p s j = true
    · rw [if_pos c] at h ⊢
      rw [if_pos c]
      cases l with
      | nil => simp at h
      | cons x l =>
        have ih := sm_msk p s f js (i + 1) l (by simpa using h)
        simp only [sm, ih]
        rw [Nat.mul_add, Nat.pow_succ, Nat.mul_assoc]
        congr 1
        cases f x <;> simp
    · rw [if_neg c] at h ⊢
      rw [if_neg c]
      have ih := sm_msk p s f js (i + 1) l h
      rw [ih, Nat.pow_succ, Nat.mul_assoc]
      simp

theorem kjf_lt (p s : Int) : ∀ (js : List Jb) (i : Nat) (a : Nat × Jb), a ∈ kjf p s i js → a.1 < i + js.length
  | [], i, a, h => by simp [kjf] at h
  | j :: js, i, a, h => by
    simp only [kjf] at h
    have ih := kjf_lt p s js (i + 1) a
    simp only [List.length_cons]
    split at h
    · rcases List.mem_cons.1 h with rfl | h
      · simp only; omega
      · have := ih h; omega
    · have := ih h; omega

theorem kjf_len (p s : Int) : ∀ (js : List Jb) (i : Nat), (kjf p s i js).length ≤ js.length
  | [], i => by simp [kjf]
  | j :: js, i => by
    have := kjf_len p s js (i + 1)
    simp only [kjf]
    split <;> simp only [List.length_cons] <;> omega

def nb? (x : Fl) : Bool := !decide (0 < x.s.nx)

theorem sum_loop {M : AMem} {o q : Option Addr} {l : List Fl} {kj : List (Nat × Jb)} {oc qc : Nat} (d : Bool) (hp : RdL M encF o l.length l) (hf : ∀ x ∈ l, IsFl M x.f x.p x.c x.s) (hq : RdI M .i64 q kj.length (pls kj)) (hl : l.length = kj.length) (h6 : ∀ a ∈ kj, a.1 < 6) (hl6 : l.length ≤ 1000) :
    ∀ (n j acc : Nat), j + n = l.length → acc + sm (if d = true then done? else nb?) (l.drop j) (kj.drop j) ≤ 100000 →
    P16_8 LL o l.length oc q kj.length qc d (acc : Int) (j : Int) M = some (.int .i64 ((acc + sm (if d = true then done? else nb?) (l.drop j) (kj.drop j) : Nat) : Int), M) := by
  intro n
  induction n with
  | zero =>
    intro j acc hj hb
    rw [P16_8_eq LL L_loop, ifDn (by rw [ofN]; omega), P16_23_eq, List.drop_eq_nil_of_le (by omega)]
    rfl
  | succ n ih =>
    intro j acc hj hb
    have hjl : j < l.length := by omega
    have hjk : j < kj.length := by omega
    obtain ⟨x, hx⟩ : ∃ x, l[j]? = some x := ⟨_, List.getElem?_eq_getElem hjl⟩
    obtain ⟨a, ha⟩ : ∃ a, kj[j]? = some a := ⟨_, List.getElem?_eq_getElem hjk⟩
    have hxm := List.mem_of_getElem? hx
    have ham := List.mem_of_getElem? ha
    have ha6 := h6 a ham
    have hdl : l.drop j = x :: l.drop (j + 1) := by rw [List.drop_eq_getElem_cons hjl]; congr 1; exact (List.getElem?_eq_some_iff.1 hx).2
    have hdk : kj.drop j = a :: kj.drop (j + 1) := by rw [List.drop_eq_getElem_cons hjk]; congr 1; exact (List.getElem?_eq_some_iff.1 ha).2
    obtain ⟨z, rfl, hz⟩ := hp.2 (by omega)
    obtain ⟨y, rfl, hy⟩ := hq.2 (by omega)
    have lz : M.ld z j = some (.pointer (some ⟨x.f, 0, none⟩)) := by
      have := flat_get encF_length l j 0 x hx (by omega)
      rw [Nat.add_zero, Nat.mul_one] at this
      rw [hz.ld, this]; rfl
    have ly : M.ld y j = some (.int .i64 (a.1 : Int)) := by
      rw [hy.ld, ints_nat (by simp [pls]; omega), List.getD_eq_getElem?_getD]
      simp [pls, ha]
    have hg : (0 : Int) ≤ (j : Int) ∧ (j : Int) < Int.ofNat l.length := by rw [ofN]; omega
    have hg2 : (0 : Int) ≤ (j : Int) ∧ (j : Int) < Int.ofNat kj.length := by rw [ofN]; omega
    have hw : IntKind.wrap .i64 ((j : Int) + 1) = ((j + 1 : Nat) : Int) := by rw [w64 (by omega)]; rfl
    have hpow : 2 ^ a.1 ≤ 2 ^ 6 := Nat.pow_le_pow_right (by omega) (by omega)
    have hp1 : IntKind.wrap .i64 (1 * 2 ^ (min (Int.toNat (a.1 : Int)) (IntKind.bits .i64))) = ((2 ^ a.1 : Nat) : Int) := by
      have e : min (Int.toNat (a.1 : Int)) (IntKind.bits .i64) = a.1 := by
        rw [Int.toNat_natCast]
        show min a.1 64 = a.1
        omega
      rw [e, Int.one_mul, w64 (by
        have : ((2 ^ a.1 : Nat) : Int) ≤ 64 := by omega
        push_cast at this
        have h0 : (0 : Int) ≤ 2 ^ a.1 := by exact_mod_cast Nat.zero_le (2 ^ a.1)
        omega)]
      push_cast
      rfl
    have hdn := done_spec (hf x hxm)
    have hbg := begun_spec' (hf x hxm)
    rw [hdl, hdk] at hb
    rw [hdl, hdk]
    simp only [sm] at hb ⊢
    rw [P16_8_eq LL L_loop, ifD hg.2]
    generalize 2 ^ a.1 = pw at hp1 hpow hb ⊢
    have add : (if d = true then done? else nb?) x = true → P16_22 LL (some ⟨z, 0, none⟩) l.length oc (some ⟨y, 0, none⟩) kj.length qc d (IntKind.wrap .i64 ((acc : Int) + ((pw : Nat) : Int))) (j : Int) M = some (.int .i64 ((acc + ((if (if d = true then done? else nb?) x = true then pw else 0) + sm (if d = true then done? else nb?) (l.drop (j + 1)) (kj.drop (j + 1))) : Nat) : Int), M) := fun hfx => by
      rw [if_pos hfx] at hb ⊢
      have e : IntKind.wrap .i64 ((acc : Int) + ((pw : Nat) : Int)) = ((acc + pw : Nat) : Int) := by rw [w64 (by omega)]; omega
      rw [P16_22_eq, hw, e, ih (j + 1) (acc + pw) (by omega) (by omega), Nat.add_assoc]
    have non : ¬ (if d = true then done? else nb?) x = true → P16_22 LL (some ⟨z, 0, none⟩) l.length oc (some ⟨y, 0, none⟩) kj.length qc d (acc : Int) (j : Int) M = some (.int .i64 ((acc + ((if (if d = true then done? else nb?) x = true then pw else 0) + sm (if d = true then done? else nb?) (l.drop (j + 1)) (kj.drop (j + 1))) : Nat) : Int), M) := fun hfx => by
      rw [if_neg hfx] at hb ⊢
      rw [P16_22_eq, hw, ih (j + 1) acc (by omega) (by omega), Nat.zero_add]
    cases d with
    | true =>
      rw [ifT]
      simp only [↓if_pos hg, Nat.zero_add, Nat.mul_one, Int.toNat_natCast, lz]
      rw [bP, bX hdn, bB]
      by_cases hx1 : x.s.adds.length = x.s.nx
      · rw [decide_eq_true hx1, ifT]
        simp only [↓if_pos hg2]
        rw [bLI ly, if_neg (by omega), hp1]
        exact add (decide_eq_true hx1)
      · rw [decide_eq_false hx1, ifF, show (!true) = false from rfl, ifF]
        exact non (by simp [done?, hx1])
    | false =>
      rw [ifF, show (!false) = true from rfl, ifT]
      simp only [↓if_pos hg, Nat.zero_add, Nat.mul_one, Int.toNat_natCast, lz]
      rw [bP, bX hbg, bB]
      by_cases hx1 : 0 < x.s.nx
      · rw [decide_eq_true hx1, show (!true) = false from rfl, ifF]
        exact non (by simp [nb?, hx1])
      · rw [decide_eq_false hx1, show (!false) = true from rfl, ifT]
        simp only [↓if_pos hg2]
        rw [bLI ly, if_neg (by omega), hp1]
        exact add (by simp [nb?, hx1])

theorem sum_spec {p s : Int} {M : AMem} {o q : Option Addr} {l : List Fl} {js : List Jb} {oc qc : Nat} (d : Bool) (hp : RdL M encF o l.length l) (hf : ∀ x ∈ l, IsFl M x.f x.p x.c x.s) (hq : RdI M .i64 q (kjf p s 0 js).length (pls (kjf p s 0 js))) (hl : l.length = (kjf p s 0 js).length) (hj : js.length ≤ 6) :
    LL.call 16 [.slice o l.length oc, .slice q (kjf p s 0 js).length qc, .bool d] M = some (.int .i64 ((msk p s (if d = true then done? else nb?) js l : Nat) : Int), M) := by
  rw [L_call16, E16]
  have hsm := sm_msk p s (if d = true then done? else nb?) js 0 l hl
  rw [Nat.pow_zero, Nat.one_mul] at hsm
  have hlt := msk_lt p s (if d = true then done? else nb?) js l
  have hpw : 2 ^ js.length ≤ 2 ^ 6 := Nat.pow_le_pow_right (by omega) hj
  have := sum_loop (oc := oc) (qc := qc) d hp hf hq hl (fun a ha => by have := kjf_lt p s js 0 a ha; omega) (by rw [hl]; have : (kjf p s 0 js).length ≤ js.length := kjf_len p s js 0; omega) l.length 0 0 (by omega) (by rw [List.drop_zero, List.drop_zero, hsm]; omega)
  rw [List.drop_zero, List.drop_zero, hsm, Nat.zero_add] at this
  exact this

/-! ### is none under way -/

def qt? (l : List Fl) : Bool := decide (∀ x ∈ l, x.s.nx = 0 ∨ x.s.adds.length = x.s.nx)

theorem quiet_loop {M : AMem} {o : Option Addr} {l : List Fl} {oc x2 : Nat} {s : Int} (hp : RdL M encF o l.length l) (hf : ∀ x ∈ l, IsFl M x.f x.p x.c x.s) (h1 : M.ld x2 1 = some (.int .i64 s)) (hs : 0 < s) (hl : l.length ≤ 1000) :
    ∀ (n j : Nat), j + n = l.length → P19_6 LL o l.length oc x2 (j : Int) M = some (.bool (qt? (l.drop j)), M) := by
  intro n
  induction n with
  | zero =>
    intro j hj
    rw [P19_6_eq LL L_loop, ifDn (by rw [ofN]; omega), P19_23_eq, bLI h1, decide_eq_true hs, List.drop_eq_nil_of_le (by omega)]
    rfl
  | succ n ih =>
    intro j hj
    have hjl : j < l.length := by omega
    obtain ⟨x, hx⟩ : ∃ x, l[j]? = some x := ⟨_, List.getElem?_eq_getElem hjl⟩
    have hxm := List.mem_of_getElem? hx
    have hdl : l.drop j = x :: l.drop (j + 1) := by rw [List.drop_eq_getElem_cons hjl]; congr 1; exact (List.getElem?_eq_some_iff.1 hx).2
    obtain ⟨z, rfl, hz⟩ := hp.2 (by omega)
    have lz : M.ld z j = some (.pointer (some ⟨x.f, 0, none⟩)) := by
      have := flat_get encF_length l j 0 x hx (by omega)
      rw [Nat.add_zero, Nat.mul_one] at this
      rw [hz.ld, this]; rfl
    have hg : (0 : Int) ≤ (j : Int) ∧ (j : Int) < Int.ofNat l.length := by rw [ofN]; omega
    have hw : IntKind.wrap .i64 ((j : Int) + 1) = ((j + 1 : Nat) : Int) := by rw [w64 (by omega)]; rfl
    have hdn := done_spec (hf x hxm)
    have hbg := begun_spec' (hf x hxm)
    rw [P19_6_eq LL L_loop, ifD hg.2]
    simp only [↓if_pos hg, Nat.zero_add, Nat.mul_one, Int.toNat_natCast, lz]
    rw [bP, bX hbg, bB]
    have go : (x.s.nx = 0 ∨ x.s.adds.length = x.s.nx) → P19_22 LL (some ⟨z, 0, none⟩) l.length oc x2 (j : Int) M = some (.bool (qt? (l.drop j)), M) := fun h => by
      rw [P19_22_eq, hw, ih (j + 1) (by omega), hdl]
      simp [qt?, h]
    by_cases c : 0 < x.s.nx
    · rw [decide_eq_true c, ifT]
      simp only [lz]
      rw [bP, bX hdn, bB]
      by_cases e : x.s.adds.length = x.s.nx
      · rw [decide_eq_true e, show (!true) = false from rfl, ifF]
        exact go (.inr e)
      · rw [decide_eq_false e, show (!false) = true from rfl, ifT, hdl]
        have : qt? (x :: l.drop (j + 1)) = false := decide_eq_false fun h => by
          rcases h x (by simp) with h | h
          · omega
          · exact e h
        rw [this]
    · rw [decide_eq_false c, ifF]
      exact go (.inl (by omega))

theorem quiet_spec {p s : Int} {M : AMem} {o : Option Addr} {l : List Fl} {oc : Nat} (hp : RdL M encF o l.length l) (hf : ∀ x ∈ l, IsFl M x.f x.p x.c x.s) (hs : 0 < s) (hl : l.length ≤ 1000) :
    ∃ M', LL.call 19 [lay p s, .slice o l.length oc] M = some (.bool (qt? l), M') ∧ Same M M' [] := by
  rw [L_call19, E19]
  have g1 := cells_new M [.int .i64 p, .int .i64 s] 0
  have s1 := same_app M [AObj.cells [.int .i64 p, .int .i64 s] ⟨false, 0⟩]
  generalize M ++ [AObj.cells [.int .i64 p, .int .i64 s] ⟨false, 0⟩] = M1 at g1 s1 ⊢
  have := quiet_loop (oc := oc) (x2 := M.length) (hp.same s1 (by simp)) (fun x hx => (hf x hx).same s1 (by simp) (by simp)) (g1.ld 1) hs hl l.length 0 (by omega)
  rw [List.drop_zero] at this
  exact ⟨M1, this, s1⟩

end Go.Proofs.Ytpnknolehckfhaa
