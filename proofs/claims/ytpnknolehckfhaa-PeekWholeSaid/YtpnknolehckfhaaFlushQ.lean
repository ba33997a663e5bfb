/- Each cell is the sum of what was added to it. -/
import Derived.Test.YtpnknolehckfhaaFlushI
set_option linter.unusedVariables false
set_option linter.unusedSimpArgs false
namespace Go.Proofs.Ytpnknolehckfhaa
open Go Go.Ax

def wsum (A : List (Int × Int)) (c : Nat) : Int := (A.map fun a => if a.1 = (c : Int) then a.2 else 0).sum

theorem wsum_app (A B : List (Int × Int)) (c : Nat) : wsum (A ++ B) c = wsum A c + wsum B c := by simp [wsum]

theorem wsum_flat (As : List (List (Int × Int))) (c : Nat) : wsum As.flatten c = (As.map fun A => wsum A c).sum := by
  induction As with
  | nil => simp [wsum]
  | cons A As ih => rw [List.flatten_cons, wsum_app, ih, List.map_cons, List.sum_cons]

/-- Cells that are sums. -/
def WInv (n : Nat) (W : List Int) (A : List (Int × Int)) : Prop := W.length = n ∧ ∀ c, c < n → W.getD c 0 = wsum A c % 18446744073709551616

theorem winv_zero (n : Nat) : WInv n (List.replicate n 0) [] := ⟨by simp, fun c hc => by
  rw [List.getD_eq_getElem?_getD, List.getElem?_replicate]
  simp [hc, wsum]⟩

theorem getD_set {W : List Int} {i : Nat} (hi : i < W.length) (v : Int) (c : Nat) : (W.set i v).getD c 0 = if c = i then v else W.getD c 0 := by
  rw [List.getD_eq_getElem?_getD, List.getD_eq_getElem?_getD]
  by_cases e : c = i
  · subst e
    rw [List.getElem?_set_self hi, if_pos rfl]; rfl
  · rw [List.getElem?_set_ne (fun h => e h.symm), if_neg e]

theorem winv_add {n : Nat} {W : List Int} {A : List (Int × Int)} (h : WInv n W A) {a : Int × Int} {i : Nat} (hi : a.1 = (i : Int)) (hin : i < n) : WInv n (W.set i (IntKind.wrap .u64 (W.getD i 0 + a.2))) (A ++ [a]) := by
  obtain ⟨h1, h2⟩ := h
  refine ⟨by rw [List.length_set]; exact h1, fun c hc => ?_⟩
  rw [getD_set (by omega), wsum_app]
  have hs : wsum [a] c = if a.1 = (c : Int) then a.2 else 0 := by simp [wsum]
  rw [hs]
  by_cases e : c = i
  · rw [if_pos e, e, h2 i hin, if_pos hi, wrapu64]
    omega
  · rw [if_neg e, h2 c hc, if_neg (by omega), Int.add_zero]

theorem winv_eq {n : Nat} {W V : List Int} {A B : List (Int × Int)} (h : WInv n W A) (k : WInv n V B) (e : ∀ c, c < n → wsum A c = wsum B c) : W = V := by
  refine List.ext_getElem (by rw [h.1, k.1]) fun i h1 h2 => ?_
  have a := h.2 i (by rw [← h.1]; exact h1)
  have b := k.2 i (by rw [← h.1]; exact h1)
  rw [List.getD_eq_getElem?_getD, List.getElem?_eq_getElem h1, Option.getD_some] at a
  rw [List.getD_eq_getElem?_getD, List.getElem?_eq_getElem h2, Option.getD_some] at b
  rw [a, b, e i (by rw [← h.1]; exact h1)]

theorem sum_set {l : List Fl} (f : Fl → Int) : ∀ {l : List Fl} {k : Nat} {x : Fl} (y : Fl), l[k]? = some x → ((l.set k y).map f).sum = (l.map f).sum - f x + f y
  | [], k, x, y, h => by simp at h
  | a :: l, 0, x, y, h => by
    simp only [List.getElem?_cons_zero, Option.some.injEq] at h
    subst h
    simp only [List.set_cons_zero, List.map_cons, List.sum_cons]
    omega
  | a :: l, k + 1, x, y, h => by
    simp only [List.getElem?_cons_succ] at h
    have := sum_set (l := l) f y h
    simp only [List.set_cons_succ, List.map_cons, List.sum_cons]
    omega

/-- What a flush has added. -/
def dn (s : FS) : List (Int × Int) := s.adds.take s.nx

def OInv (n : Nat) (L : List Int) (l : List Fl) : Prop := L.length = n ∧ ∀ c, c < n → L.getD c 0 = (l.map fun x => wsum (dn x.s) c).sum % 18446744073709551616

theorem fS_nx (L : List Int) (s : FS) : (fS L s).nx = s.nx + fW L s := by
  unfold fS fW fWon
  by_cases e : fOver L s = true
  · rw [if_pos e, e]; rfl
  · have e' : fOver L s = false := by simpa using e
    rw [if_neg e, e']
    cases hr : s.rd with
    | false => rfl
    | true =>
      cases hc : casB L (fAdd s).1 s.seen with
      | true => rfl
      | false => rfl

theorem OInv.step {n : Nat} {L : List Int} {l : List Fl} {k : Nat} {x : Fl} (h : OInv n L l) (hx : l[k]? = some x) (hg : Good n x.s) : OInv n (fL L x.s) (l.set k (x.wi (fS L x.s))) := by
  obtain ⟨h1, h2⟩ := h
  have hg' : Good L.length x.s := by rw [h1]; exact hg
  refine ⟨by rw [fL_length]; exact h1, fun c hc => ?_⟩
  rw [sum_set (l := l) (fun x => wsum (dn x.s) c) _ hx]
  have hd : dn (x.wi (fS L x.s)).s = x.s.adds.take (x.s.nx + fW L x.s) := by simp only [dn, Fl.wi, fS_adds, fS_nx]
  rw [hd]
  by_cases hw : fWon L x.s = true
  · have hW : fW L x.s = 1 := by simp [fW, hw]
    have hl : fL L x.s = L.set (fAdd x.s).1.toNat (IntKind.wrap .u64 (x.s.seen + (fAdd x.s).2)) := by simp [fL, hw]
    have hh := hw
    unfold fWon at hh
    simp only [Bool.and_eq_true, Bool.not_eq_true'] at hh
    obtain ⟨ho, hr, hc'⟩ := hh
    have hn : x.s.nx < x.s.adds.length := by
      rw [hg'.over, decide_eq_false_iff_not] at ho
      have := hg.nx; omega
    have hir := hg'.inR hn
    unfold casB at hc'
    have hcb := of_decide_eq_true hc'
    have hir' := hir
    unfold inR at hir'
    have hseen : L.getD (fAdd x.s).1.toNat 0 = x.s.seen := by
      have := hcb.2
      unfold getI at this
      rw [if_pos hir] at this
      exact this
    have ht : x.s.adds.take (x.s.nx + 1) = dn x.s ++ [fAdd x.s] := by
      rw [List.take_add_one, List.getElem?_eq_getElem hn]
      simp only [dn, fAdd, List.getD_eq_getElem?_getD, List.getElem?_eq_getElem hn]
      rfl
    rw [hW, ht, wsum_app, hl, getD_set (by omega)]
    have hs : wsum [fAdd x.s] c = if (fAdd x.s).1 = (c : Int) then (fAdd x.s).2 else 0 := by simp [wsum]
    rw [hs]
    by_cases e : c = (fAdd x.s).1.toNat
    · rw [if_pos e, if_pos (by omega), wrapu64, ← hseen, ← e, h2 c hc]
      omega
    · rw [if_neg e, if_neg (by omega), h2 c hc]
      omega
  · have hw' : fWon L x.s = false := by simpa using hw
    have hW : fW L x.s = 0 := by simp [fW, hw']
    have hl : fL L x.s = L := by simp [fL, hw']
    rw [hW, hl, Nat.add_zero, h2 c hc]
    simp only [dn]
    omega

theorem OInv.zero {n : Nat} {l : List Fl} (h : ∀ x ∈ l, x.s.nx = 0) : OInv n (List.replicate n 0) l := by
  refine ⟨by simp, fun c hc => ?_⟩
  have : (l.map fun x => wsum (dn x.s) c) = l.map fun _ => 0 := List.map_congr_left fun x hx => by simp [dn, h x hx, wsum]
  rw [this, List.getD_eq_getElem?_getD, List.getElem?_replicate]
  have h0 : ∀ m : List Fl, (m.map fun _ => (0 : Int)).sum = 0 := fun m => by
    induction m with
    | nil => rfl
    | cons a m ih => rw [List.map_cons, List.sum_cons, ih]; rfl
  rw [h0]
  simp [hc]

/-- In the end. -/
theorem OInv.done {n : Nat} {L : List Int} {l : List Fl} (h : OInv n L l) (hd : ∀ x ∈ l, x.s.nx = x.s.adds.length) : WInv n L (l.map fun x => x.s.adds).flatten := by
  refine ⟨h.1, fun c hc => ?_⟩
  rw [h.2 c hc, wsum_flat, List.map_map]
  congr 2
  exact List.map_congr_left fun x hx => by simp [dn, hd x hx]

end Go.Proofs.Ytpnknolehckfhaa
