/- The flushes of jobs. -/
import Derived.Test.YtpnknolehckfhaaFlushF
set_option linter.unusedVariables false
set_option linter.unusedSimpArgs false
namespace Go.Proofs.Ytpnknolehckfhaa
open Go Go.Ax

def okJ (p s : Int) (j : Jb) : Bool := decide (FlOk p s j.st j.es)
def mk33 (p s : Int) (js : List Jb) : List FS := (js.filter (okJ p s)).map fun j => flNew p s j.st j.es

theorem mk33_app (p s : Int) (js : List Jb) (j : Jb) : mk33 p s (js ++ [j]) = mk33 p s js ++ if okJ p s j = true then [flNew p s j.st j.es] else [] := by
  unfold mk33
  rw [List.filter_append, List.map_append]
  congr 1
  by_cases h : okJ p s j = true
  · simp [h]
  · simp [h]

/-- Flushes that are being made. -/
structure MkI (N0 : Nat) (M0 M : AMem) (o : Option Addr) (oc : Nat) (l : List Fl) : Prop where
  sl : Slc M 1 o l.length oc (l.flatMap encF)
  fl : Fls M l
  ao : ∀ b ∈ blk o, N0 ≤ b ∧ ∀ x ∈ l, b ∉ x.bl
  lo : ∀ x ∈ l, ∀ b ∈ x.bl, N0 ≤ b ∧ b < M.length
  same : Same M0 M []

theorem MkI.st {N0 : Nat} {M0 M M' : AMem} {o : Option Addr} {oc : Nat} {l : List Fl} (h : MkI N0 M0 M o oc l) (s : Same M M' []) : MkI N0 M0 M' o oc l :=
  ⟨h.sl.same s (by simp), h.fl.same s (by simp), h.ao, fun x hx b hb => ⟨(h.lo x hx b hb).1, by have := (h.lo x hx b hb).2; have := s.le; omega⟩, (h.same.trans s).mono (by simp)⟩

end Go.Proofs.Ytpnknolehckfhaa
