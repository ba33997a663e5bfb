/- What laws are handed, one by one. -/
import Derived.Test.YtpnknolehckfhaaFlushS
import Derived.Test.YtpnknolehckfhaaAxD
set_option linter.unusedVariables false
set_option linter.unusedSimpArgs false
namespace Go.Proofs.Ytpnknolehckfhaa
open Go Go.Ax
open Go.ChangeShapes Go.WideShapes Go.ChangeAt Go.RowKit

theorem holds_lay {A : AMem} {v : Value} (ha : HoldsV A (true, [.int .i64, .int .i64]) v) : ∃ p s, v = lay p s := by
  unfold HoldsV at ha
  rw [if_pos rfl] at ha
  obtain ⟨cs, rfl, ha⟩ := ha
  simp only [HoldsL, Holds] at ha
  obtain ⟨_, _, e0, ⟨p, rfl, _⟩, _, _, rfl, ⟨s, rfl, _⟩, rfl⟩ := ha
  refine ⟨p, s, ?_⟩
  have : cs = #[.int .i64 p, .int .i64 s] := by
    apply Array.toList_inj.1
    rw [e0]
  rw [this]

theorem holds_int {A : AMem} {v : Value} {k : IntKind} (ha : HoldsV A (false, [.int k]) v) : ∃ n, v = .int k n ∧ (Lit.int k n).wf = true := by
  unfold HoldsV at ha
  rw [if_neg (by simp)] at ha
  obtain ⟨_, _, e, hb, h'⟩ := holdsL_cons ha
  cases e
  simp only [Holds] at hb
  exact hb

theorem holds_jobs {A : AMem} {v : Value} (hb : HoldsV A (false, [.slice [.int .i64, .slice [.int .i64, .int .u64, .int .u64, .int .u64]]]) v) :
    ∃ q js, v = .slice q (List.length js) 0 ∧ Jobs A.length A q js ∧ js.length ≤ 1000000000000000 ∧ ∀ j ∈ js, j.es.length ≤ 1000000000000000 := by
  unfold HoldsV at hb
  rw [if_neg (by simp)] at hb
  obtain ⟨_, _, e, hb, h'⟩ := holdsL_cons hb
  cases e
  obtain ⟨q, js, rfl, b1, b2, b3⟩ := holds_listZ encJ (fun j => (RdL A encE j.p j.es.length j.es) ∧ j.es.length ≤ reachBytes) (by simp) hb fun cs hc => by
    obtain ⟨_, r, rfl, h1, h2⟩ := holdsL_cons hc
    obtain ⟨_, r', rfl, h3, h4⟩ := holdsL_cons h2
    simp only [HoldsL] at h4
    subst h4
    simp only [Holds] at h1
    obtain ⟨st, rfl, _⟩ := h1
    obtain ⟨p', es, rfl, c1, c2, c3⟩ := holds_listZ encE (fun _ => True) (by simp) h3 fun cs hc => by
      simp only [HoldsL, Holds] at hc
      obtain ⟨_, _, rfl, ⟨x0, rfl, _⟩, _, _, rfl, ⟨x1, rfl, _⟩, _, _, rfl, ⟨x2, rfl, _⟩, _, _, rfl, ⟨x3, rfl, _⟩, rfl⟩ := hc
      exact ⟨⟨x0, x1, x2, x3⟩, trivial, rfl⟩
    exact ⟨⟨st, p', es⟩, ⟨c1, c3⟩, rfl⟩
  refine ⟨q, js, rfl, ⟨b1, fun h => b1.lt h, fun j hj => ⟨(b2 j hj).1, fun h => (b2 j hj).1.lt h⟩⟩, ?_, fun j hj => ?_⟩
  · unfold reachBytes at b3; omega
  · have := (b2 j hj).2
    unfold reachBytes at this; omega

theorem holds_bytes {A : AMem} {v : Value} (hc : HoldsV A (false, [.slice [.int .u8]]) v) :
    ∃ w ord, v = .slice w (List.length ord) 0 ∧ RdI A .u8 w ord.length ord ∧ (∀ x ∈ ord, 0 ≤ x ∧ x < 256) ∧ (0 < ord.length → ∀ b ∈ blk w, b < A.length) := by
  unfold HoldsV at hc
  rw [if_neg (by simp)] at hc
  obtain ⟨_, _, e, hc, h''⟩ := holdsL_cons hc
  cases e
  obtain ⟨w, ord, rfl, h1, h2, h3⟩ := holds_listZ (fun x => [Value.int .u8 x]) (fun x => (Lit.int .u8 x).wf = true) (by simp) hc fun cs hc => by
    simp only [HoldsL, Holds] at hc
    obtain ⟨_, _, rfl, ⟨x0, rfl, hx⟩, rfl⟩ := hc
    exact ⟨x0, hx, rfl⟩
  exact ⟨w, ord, rfl, h1.rdI, fun x hx => by have := bounds_u8 (h2 x hx); omega, fun h => h1.lt h⟩

theorem Jobs.up {N N' : Nat} {M : AMem} {q : Option Addr} {js : List Jb} (h : Jobs N M q js) (hN : N ≤ N') : Jobs N' M q js :=
  ⟨h.rd, fun h0 b hb => by have := h.bq h0 b hb; omega, fun j hj => ⟨(h.es j hj).1, fun h0 b hb => by have := (h.es j hj).2 h0 b hb; omega⟩⟩

end Go.Proofs.Ytpnknolehckfhaa
