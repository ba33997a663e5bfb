/- What holds while flushes go on. -/
import Derived.Test.YtpnknolehckfhaaFlushC
import Derived.Test.YtpnknolehckfhaaFlushG
import Derived.Test.YtpnknolehckfhaaEqRef33
set_option linter.unusedVariables false
set_option linter.unusedSimpArgs false
namespace Go.Proofs.Ytpnknolehckfhaa
open Go Go.Ax

def szN (p s : Int) : Nat := (1 + 2 * s + 3 * p).toNat

theorem rsize31_spec (p s : Int) : ∃ M, LL.call 10 [lay p s] [] = some (.int .i64 (if Rt p s then 1 + 2 * s + 3 * p else 0), M) := by
  rw [L_call10, E10]
  obtain ⟨_, k⟩ := right12_spec p s
  rw [bX k, bB]
  by_cases h : Rt p s
  · obtain ⟨h1, h2, h3, h4⟩ := h
    have e1 : IntKind.wrap .i64 (2 * s) = 2 * s := w64 (by omega)
    have e2 : IntKind.wrap .i64 (1 + 2 * s) = 1 + 2 * s := w64 (by omega)
    have e3 : IntKind.wrap .i64 (3 * p) = 3 * p := w64 (by omega)
    have e4 : IntKind.wrap .i64 (1 + 2 * s + 3 * p) = 1 + 2 * s + 3 * p := w64 (by omega)
    rw [decide_eq_true ⟨h1, h2, h3, h4⟩, ifNT, e1, e2, e3, e4, if_pos ⟨h1, h2, h3, h4⟩]
    exact ⟨_, rfl⟩
  · rw [decide_eq_false h, ifNF, if_neg h]
    exact ⟨_, rfl⟩

theorem flNew_good {p s st : Int} {es : List En} (h : FlOk p s st es) : Good (szN p s) (flNew p s st es) := by
  obtain ⟨⟨hr, h1, h2⟩, _, he⟩ := h
  obtain ⟨r1, r2, r3, r4⟩ := hr
  have hsz : ((szN p s : Nat) : Int) = 1 + 2 * s + 3 * p := by unfold szN; omega
  refine ⟨by rw [hsz]; rfl, Nat.zero_le _, fun a ha => ?_⟩
  rw [hsz]
  simp only [flNew, flAdds, List.mem_cons, List.mem_append, List.not_mem_nil, or_false, List.mem_flatMap] at ha
  rcases ha with rfl | ⟨e, hee, ha⟩ | rfl
  · simp only; omega
  · have hp := he e hee
    simp only [enAdds, chAdd, List.mem_append] at ha
    rcases ha with (ha | ha) | ha
    all_goals
      split at ha
      · simp at ha
      · simp only [List.mem_singleton] at ha
        subst ha
        simp only
        omega
  · simp only; omega

theorem mk33_good {p s : Int} {js : List Jb} {x : FS} (h : x ∈ mk33 p s js) : Good (szN p s) x ∧ x.rd = false ∧ x.nx = 0 ∧ x.lost = 0 := by
  unfold mk33 at h
  obtain ⟨j, hj, rfl⟩ := List.mem_map.1 h
  have := (List.mem_filter.1 hj).2
  unfold okJ at this
  exact ⟨flNew_good (of_decide_eq_true this), rfl, rfl, rfl⟩

/-- What holds after i steps. -/
structure LI (N n : Nat) (M : AMem) (mb ma : Nat) (L : List Int) (st wi : Nat) (o : Option Addr) (l : List Fl) (T : Nat) : Prop where
  sys : Sys N M mb ma L st wi o l
  good : ∀ x ∈ l, Good n x.s
  len : L.length = n
  st : st ≤ T
  wi : wi ≤ T
  lo : ∀ x ∈ l, x.s.lost ≤ T

theorem mem_set_fl {l : List Fl} {k : Nat} {x : Fl} (hx : l[k]? = some x) (s' : FS) {P : FS → Prop} (h : ∀ y ∈ l, P y.s) (h' : P s') : ∀ y ∈ l.set k (x.wi s'), P y.s := by
  intro y hy
  obtain ⟨i, hi⟩ := List.getElem?_of_mem hy
  by_cases e : k = i
  · subst e
    rw [List.getElem?_set_self (List.getElem?_eq_some_iff.1 hx).1] at hi
    cases hi
    exact h'
  · rw [List.getElem?_set_ne e] at hi
    exact h y (List.mem_of_getElem? hi)

theorem fLo_le (L : List Int) (s : FS) : fLo L s ≤ 1 := by unfold fLo; split <;> omega
theorem fW_le (L : List Int) (s : FS) : fW L s ≤ 1 := by unfold fW; split <;> omega
theorem fT_le (L : List Int) (s : FS) : fT L s ≤ 1 := by unfold fT; split <;> omega

theorem LI.step {N n : Nat} {M : AMem} {mb ma : Nat} {L : List Int} {st wi : Nat} {o : Option Addr} {l : List Fl} {T : Nat} (h : LI N n M mb ma L st wi o l T) (hT : T < 100000000) {k : Nat} {x : Fl} (hx : l[k]? = some x) :
    ∃ M', LL.call 18 [pt x.f, pt mb] M = some (.bool (!fOver L x.s), M') ∧ LI N n M' mb ma (fL L x.s) (st + fT L x.s) (wi + fW L x.s) o (l.set k (x.wi (fS L x.s))) (T + 1) ∧ Same M M' [x.f, mb, ma] := by
  have hxl := List.mem_of_getElem? hx
  have h1 := h.st
  have h2 := h.wi
  have h3 := h.lo x hxl
  obtain ⟨M', k1, k2, k3⟩ := sys_step h.sys hx (by omega) (by omega) (by omega)
  have hg := h.good x hxl
  have hg' : Good L.length x.s := by rw [h.len]; exact hg
  have q1 := fT_le L x.s
  have q2 := fW_le L x.s
  have q3 := fLo_le L x.s
  refine ⟨M', k1, ⟨k2, mem_set_fl hx _ h.good ?_, by rw [fL_length]; exact h.len, by omega, by omega, mem_set_fl hx _ (P := fun s => s.lost ≤ T + 1) (fun y hy => by have := h.lo y hy; omega) ?_⟩, k3⟩
  · have := hg'.step
    rw [fL_length, h.len] at this
    exact this
  · show (fS L x.s).lost ≤ T + 1
    rw [fS_lost L x.s hg']
    omega

end Go.Proofs.Ytpnknolehckfhaa
