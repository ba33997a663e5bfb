/- Flushes side by side, over one memory; a step; the flushes of jobs. -/
import Derived.Test.YtpnknolehckfhaaFlushS
set_option linter.unusedVariables false
set_option linter.unusedSimpArgs false
namespace Go.Proofs.Ytpnknolehckfhaa
open Go Go.Ax

/-! ### a step, as what stands behind it -/

def fOver (L : List Int) (s : FS) : Bool := decide (s.adds.length = s.nx ∨ (L.length : Int) ≠ s.size)
def fAdd (s : FS) : Int × Int := s.adds.getD s.nx (0, 0)
def fWon (L : List Int) (s : FS) : Bool := !fOver L s && (s.rd && casB L (fAdd s).1 s.seen)
def fS (L : List Int) (s : FS) : FS :=
  if fOver L s = true then s else if s.rd = true then (if casB L (fAdd s).1 s.seen = true then { s with rd := false, nx := s.nx + 1 } else { s with rd := false, lost := s.lost + 1 })
  else { s with rd := decide (inR L (fAdd s).1), seen := getI L (fAdd s).1 }
def fL (L : List Int) (s : FS) : List Int := if fWon L s = true then L.set (fAdd s).1.toNat (IntKind.wrap .u64 (s.seen + (fAdd s).2)) else L
def fW (L : List Int) (s : FS) : Nat := if fWon L s = true then 1 else 0
def fT (L : List Int) (s : FS) : Nat := if fOver L s = true then 0 else 1

theorem fL_length (L : List Int) (s : FS) : (fL L s).length = L.length := by unfold fL; split <;> simp

theorem fl_step {M : AMem} {f b a : Nat} {p : Option Addr} {c : Nat} {s : FS} {L : List Int} {st wi : Nat} (h : IsFl M f p c s) (hm : IsMem M b a L st wi) (hst : st < 1000000000000000000) (hwi : wi < 1000000000000000000) (hlo : s.lost < 1000000000000000000) (hd : f ≠ b ∧ f ≠ a ∧ ∀ x ∈ blk p, x ≠ b ∧ x ≠ a) :
    ∃ M', LL.call 18 [pt f, pt b] M = some (.bool (!fOver L s), M') ∧ IsFl M' f p c (fS L s) ∧ IsMem M' b a (fL L s) (st + fT L s) (wi + fW L s) ∧ Same M M' [f, b, a] := by
  by_cases ho : s.adds.length = s.nx ∨ (L.length : Int) ≠ s.size
  · have e : fOver L s = true := decide_eq_true ho
    have e2 : fWon L s = false := by simp [fWon, e]
    refine ⟨M, ?_, ?_, ?_, .refl _ _⟩
    · rw [e]; exact step_over h hm ho
    · unfold fS; rw [if_pos e]; exact h
    · rw [show fT L s = 0 by simp [fT, e], show fL L s = L by simp [fL, e2], show fW L s = 0 by simp [fW, e2]]; exact hm
  · have e : fOver L s = false := decide_eq_false ho
    have hn := h.nx
    have hlt : s.nx < s.adds.length := by omega
    have hx : s.adds[s.nx]? = some (fAdd s) := by unfold fAdd; rw [List.getD_eq_getElem?_getD, List.getElem?_eq_getElem hlt]; rfl
    have hsz : (L.length : Int) = s.size := by omega
    cases hr : s.rd with
    | false =>
      obtain ⟨M', k1, k2, k3, k4⟩ := step_read h hm hst hd hx hsz hr
      have e2 : fWon L s = false := by simp [fWon, hr]
      refine ⟨M', ?_, ?_, ?_, k4.mono (by intro x hx; simp at hx ⊢; rcases hx with h | h <;> simp [h])⟩
      · rw [e]; exact k1
      · unfold fS; rw [if_neg (by simp [e]), if_neg (by simp [hr])]; exact k2
      · rw [show fT L s = 1 by simp [fT, e], show fL L s = L by simp [fL, e2], show fW L s = 0 by simp [fW, e2]]; exact k3
    | true =>
      obtain ⟨M', k1, k2, k3, k4⟩ := step_cas h hm hst hwi hlo hd hx hsz hr
      refine ⟨M', ?_, ?_, ?_, k4⟩
      · rw [e]; exact k1
      · unfold fS; rw [if_neg (by simp [e]), if_pos hr]; exact k2
      · have e2 : fWon L s = casB L (fAdd s).1 s.seen := by simp [fWon, e, hr]
        rw [show fT L s = 1 by simp [fT, e]]
        unfold fL fW
        rw [e2]
        unfold casL at k3
        cases hc : casB L (fAdd s).1 s.seen with
        | true => rw [hc] at k3; simpa using k3
        | false => rw [hc] at k3; simpa using k3

/-! ### many flushes -/

structure Fl where
  f : Nat
  p : Option Addr
  c : Nat
  s : FS

def Fl.bl (x : Fl) : List Nat := x.f :: blk x.p
def encF (x : Fl) : List Value := [.pointer (some ⟨x.f, 0, none⟩)]
theorem encF_length (x : Fl) : (encF x).length = 1 := rfl

def Fl.wi (x : Fl) (s : FS) : Fl := ⟨x.f, x.p, x.c, s⟩

structure Fls (M : AMem) (l : List Fl) : Prop where
  is : ∀ x ∈ l, IsFl M x.f x.p x.c x.s
  nd : (l.map Fl.bl).Pairwise (fun a b => ∀ x ∈ a, x ∉ b)

theorem IsFl.lt {M : AMem} {f : Nat} {p : Option Addr} {c : Nat} {s : FS} (h : IsFl M f p c s) (h0 : 0 < s.adds.length) : ∀ b ∈ f :: blk p, b < M.length := by
  intro b hb
  rcases List.mem_cons.1 hb with rfl | hb
  · exact h.hd.lt
  · exact h.ad.lt h0 b hb

theorem Fls.same {M M' : AMem} {S : List Nat} {l : List Fl} (h : Fls M l) (k : Same M M' S) (hS : ∀ b ∈ S, ∀ x ∈ l, b ∉ x.bl) : Fls M' l :=
  ⟨fun x hx => (h.is x hx).same k (fun hb => hS _ hb x hx (by simp [Fl.bl])) (fun b hb hbs => hS _ hbs x hx (by simp [Fl.bl, hb])), h.nd⟩

theorem Fls.apart {M : AMem} {l : List Fl} (h : Fls M l) {i k : Nat} {x y : Fl} (hi : l[i]? = some x) (hk : l[k]? = some y) (hne : i ≠ k) : ∀ b ∈ x.bl, b ∉ y.bl := by
  have h1 := (List.getElem?_eq_some_iff.1 hi)
  have h2 := (List.getElem?_eq_some_iff.1 hk)
  obtain ⟨q1, q2⟩ := h1
  obtain ⟨q3, q4⟩ := h2
  have := List.pairwise_iff_getElem.1 h.nd
  rcases Nat.lt_or_gt_of_ne hne with hl | hl
  · have := this i k (by simpa using q1) (by simpa using q3) hl
    simp only [List.getElem_map, q2, q4] at this
    exact this
  · have := this k i (by simpa using q3) (by simpa using q1) hl
    simp only [List.getElem_map, q2, q4] at this
    exact fun b hb hb' => this b hb' hb

theorem Fls.upd {M M' : AMem} {S : List Nat} {l : List Fl} (h : Fls M l) {k : Nat} {x : Fl} (hx : l[k]? = some x) (s' : FS) (hs : Same M M' S) (hS : ∀ b ∈ S, b ∈ x.bl ∨ ∀ y ∈ l, b ∉ y.bl) (h' : IsFl M' x.f x.p x.c s') : Fls M' (l.set k (x.wi s')) := by
  refine ⟨fun y hy => ?_, ?_⟩
  · obtain ⟨i, hi⟩ := List.getElem?_of_mem hy
    by_cases e : k = i
    · subst e
      rw [List.getElem?_set_self (List.getElem?_eq_some_iff.1 hx).1] at hi
      cases hi
      exact h'
    · rw [List.getElem?_set_ne e] at hi
      have hd := h.apart hx hi e
      have hyl := List.mem_of_getElem? hi
      have : ∀ b ∈ y.bl, b ∉ S := fun b hb hbs => by
        rcases hS b hbs with h1 | h1
        · exact hd b h1 hb
        · exact h1 y hyl hb
      exact (h.is y hyl).same hs (this _ (by simp [Fl.bl])) (fun b hb => this _ (by simp [Fl.bl, hb]))
  · have : (l.set k (x.wi s')).map Fl.bl = l.map Fl.bl := by
      rw [List.map_set]
      refine List.ext_getElem? fun i => ?_
      by_cases e : k = i
      · subst e
        rw [List.getElem?_set_self (by simpa using (List.getElem?_eq_some_iff.1 hx).1), List.getElem?_map, hx]
        rfl
      · rw [List.getElem?_set_ne e]
    rw [this]
    exact h.nd

/-- A memory, and flushes over it. -/
structure Sys (N : Nat) (M : AMem) (mb ma : Nat) (L : List Int) (st wi : Nat) (o : Option Addr) (l : List Fl) : Prop where
  mem : IsMem M mb ma L st wi
  fl : Fls M l
  ptr : RdL M encF o l.length l
  am : ∀ x ∈ l, mb ∉ x.bl ∧ ma ∉ x.bl
  ao : ∀ b ∈ blk o, b ≠ mb ∧ b ≠ ma ∧ ∀ x ∈ l, b ∉ x.bl
  lo : N ≤ mb ∧ N ≤ ma ∧ ∀ x ∈ l, ∀ b ∈ x.bl, N ≤ b

theorem encF_set {l : List Fl} {k : Nat} {x : Fl} (hx : l[k]? = some x) (s' : FS) : (l.set k (x.wi s')).flatMap encF = l.flatMap encF := by
  have : ∀ m : List Fl, m.flatMap encF = (m.map fun x => x.f).flatMap fun f => [.pointer (some ⟨f, 0, none⟩)] := fun m => by rw [List.flatMap_map]; rfl
  rw [this, this]
  congr 1
  rw [List.map_set]
  refine List.ext_getElem? fun i => ?_
  by_cases e : k = i
  · subst e
    rw [List.getElem?_set_self (by simpa using (List.getElem?_eq_some_iff.1 hx).1), List.getElem?_map, hx]
    rfl
  · rw [List.getElem?_set_ne e]

theorem mem_set_wi {l : List Fl} {k : Nat} {x : Fl} (hx : l[k]? = some x) (s' : FS) {y : Fl} (hy : y ∈ l.set k (x.wi s')) : ∃ z ∈ l, z.bl = y.bl := by
  obtain ⟨i, hi⟩ := List.getElem?_of_mem hy
  by_cases e : k = i
  · subst e
    rw [List.getElem?_set_self (List.getElem?_eq_some_iff.1 hx).1] at hi
    cases hi
    exact ⟨x, List.mem_of_getElem? hx, rfl⟩
  · rw [List.getElem?_set_ne e] at hi
    exact ⟨y, List.mem_of_getElem? hi, rfl⟩

theorem sys_step {N : Nat} {M : AMem} {mb ma : Nat} {L : List Int} {st wi : Nat} {o : Option Addr} {l : List Fl} (h : Sys N M mb ma L st wi o l) {k : Nat} {x : Fl} (hx : l[k]? = some x) (hst : st < 1000000000000000000) (hwi : wi < 1000000000000000000) (hlo : x.s.lost < 1000000000000000000) :
    ∃ M', LL.call 18 [pt x.f, pt mb] M = some (.bool (!fOver L x.s), M') ∧ Sys N M' mb ma (fL L x.s) (st + fT L x.s) (wi + fW L x.s) o (l.set k (x.wi (fS L x.s))) ∧ Same M M' [x.f, mb, ma] := by
  have hxl := List.mem_of_getElem? hx
  obtain ⟨a1, a2⟩ := h.am x hxl
  obtain ⟨M', k1, k2, k3, k4⟩ := fl_step (h.fl.is x hxl) h.mem hst hwi hlo ⟨fun e => a1 (by simp [Fl.bl, ← e]), fun e => a2 (by simp [Fl.bl, ← e]), fun y hy => ⟨fun e => a1 (by simp [Fl.bl, ← e, hy]), fun e => a2 (by simp [Fl.bl, ← e, hy])⟩⟩
  refine ⟨M', k1, ⟨k3, h.fl.upd hx _ k4 (fun b hb => ?_) k2, ?_, fun y hy => ?_, fun b hb => ?_, h.lo.1, h.lo.2.1, fun y hy b hb => ?_⟩, k4⟩
  · simp only [List.mem_cons, List.not_mem_nil, or_false] at hb
    rcases hb with rfl | rfl | rfl
    · exact .inl (by simp [Fl.bl])
    · exact .inr fun y hy => (h.am y hy).1
    · exact .inr fun y hy => (h.am y hy).2
  · rw [List.length_set]
    refine ⟨by simp, fun h0 => ?_⟩
    obtain ⟨a, e, hr⟩ := h.ptr.2 h0
    rw [encF_set hx]
    refine ⟨a, e, hr.same k4 ?_⟩
    obtain ⟨q1, q2, q3⟩ := h.ao a (by rw [e]; simp)
    simp only [List.mem_cons, List.not_mem_nil, or_false, not_or]
    exact ⟨fun e => q3 x hxl (by simp [Fl.bl, e]), q1, q2⟩
  · obtain ⟨z, hz, e⟩ := mem_set_wi hx _ hy
    rw [← e]; exact h.am z hz
  · obtain ⟨q1, q2, q3⟩ := h.ao b hb
    refine ⟨q1, q2, fun y hy => ?_⟩
    obtain ⟨z, hz, e⟩ := mem_set_wi hx _ hy
    rw [← e]; exact q3 z hz
  · obtain ⟨z, hz, e⟩ := mem_set_wi hx _ hy
    exact h.lo.2.2 z hz b (by rw [e]; exact hb)

theorem Sys.same {N : Nat} {M M' : AMem} {mb ma : Nat} {L : List Int} {st wi : Nat} {o : Option Addr} {l : List Fl} (h : Sys N M mb ma L st wi o l) {S : List Nat} (k : Same M M' S) (h1 : mb ∉ S ∧ ma ∉ S) (h2 : ∀ x ∈ l, ∀ b ∈ x.bl, b ∉ S) (h3 : ∀ b ∈ blk o, b ∉ S) : Sys N M' mb ma L st wi o l :=
  ⟨h.mem.same k h1.1 h1.2, h.fl.same k fun b hb x hx hbx => h2 x hx b hbx hb, h.ptr.same k h3, h.am, h.ao, h.lo⟩

/-- The pointer to one of them. -/
theorem Sys.ld {N : Nat} {M : AMem} {mb ma : Nat} {L : List Int} {st wi : Nat} {o : Option Addr} {l : List Fl} (h : Sys N M mb ma L st wi o l) {k : Nat} {x : Fl} (hx : l[k]? = some x) : ∃ z, o = some ⟨z, 0, none⟩ ∧ M.ld z k = some (.pointer (some ⟨x.f, 0, none⟩)) := by
  obtain ⟨z, e, hr⟩ := h.ptr.2 (by have := (List.getElem?_eq_some_iff.1 hx).1; omega)
  refine ⟨z, e, ?_⟩
  have := flat_get encF_length l k 0 x hx (by omega)
  rw [Nat.add_zero, Nat.mul_one] at this
  rw [hr.ld, this]; rfl

end Go.Proofs.Ytpnknolehckfhaa
