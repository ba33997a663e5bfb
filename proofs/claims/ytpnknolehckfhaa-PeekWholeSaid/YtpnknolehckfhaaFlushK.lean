/- One more flush, that is made. -/
import Derived.Test.YtpnknolehckfhaaFlushG
set_option linter.unusedVariables false
set_option linter.unusedSimpArgs false
namespace Go.Proofs.Ytpnknolehckfhaa
open Go Go.Ax

/-- One more. -/
theorem MkI.add {M0 M1 M2 : AMem} {o : Option Addr} {oc : Nat} {l : List Fl} {f : Nat} {fo : Option Addr} {fc : Nat} {s : FS} (hI1 : MkI M0.length M0 M1 o oc l) (t : Same M1 M2 []) (b2 : IsFl M2 f fo fc s) (hnb : ∀ b ∈ f :: blk fo, M1.length ≤ b) (hpos : 0 < s.adds.length) (hl : l.length ≤ 1000000) :
    ∃ M3, rowOf (M2 ++ [AObj.cells [.pointer (some ⟨f, 0, none⟩)] ⟨false, 0⟩]) 1 (.slice (some ⟨List.length M2, 0, none⟩) 1 1) = some [.pointer (some ⟨f, 0, none⟩)] ∧
      (∀ K, appendK 1 8 o l.length oc 1 [.pointer (some ⟨f, 0, none⟩)] (M2 ++ [AObj.cells [.pointer (some ⟨f, 0, none⟩)] ⟨false, 0⟩]) K = K (some ⟨M2.length + 1, 0, none⟩) (l ++ [(⟨f, fo, fc, s⟩ : Fl)]).length 1 M3) ∧
      MkI M0.length M0 M3 (some ⟨M2.length + 1, 0, none⟩) 1 (l ++ [⟨f, fo, fc, s⟩]) ∧ Grn M2 o M3 (some ⟨M2.length + 1, 0, none⟩) ∧ M2.length + 2 ≤ M3.length := by
  have hI2 := hI1.st t
  obtain ⟨M3, c1, c2, c3, c4⟩ := append_row (bytes := 8) (v := 0) (new := encF ⟨f, fo, fc, s⟩) (m := 1) hI2.sl rfl (by omega) (by omega)
  have hrow := rowOf_new M2 1 1 (encF ⟨f, fo, fc, s⟩) 0 1 rfl
  unfold encF at c1 hrow
  have le1 := t.le
  have fl2 := b2.lt hpos
  have hM0 := hI1.same.le
  have ho2 := hI2.sl.lt
  have hon : ∀ b ∈ blk o, b < M1.length := fun b hb => hI1.sl.lt b hb
  have ho : ∀ b ∈ blk o, ∀ x ∈ l ++ [(⟨f, fo, fc, s⟩ : Fl)], b ∉ x.bl := fun b hb x hx => by
    rcases List.mem_append.1 hx with hx | hx
    · exact (hI1.ao b hb).2 x hx
    · simp only [List.mem_singleton] at hx
      subst hx
      intro hb2
      have := hnb b hb2
      have := hon b hb
      omega
  have hfl2 : Fls M2 (l ++ [⟨f, fo, fc, s⟩]) := by
    refine ⟨fun x hx => ?_, ?_⟩
    · rcases List.mem_append.1 hx with hx | hx
      · exact hI2.fl.is x hx
      · simp only [List.mem_singleton] at hx
        subst hx
        exact b2
    · rw [List.map_append, List.pairwise_append]
      refine ⟨hI1.fl.nd, by simp, fun a ha b hb x hx hx2 => ?_⟩
      obtain ⟨y, hy, rfl⟩ := List.mem_map.1 ha
      simp only [List.map_cons, List.map_nil, List.mem_singleton] at hb
      subst hb
      have := (hI1.lo y hy x hx).2
      have := hnb x hx2
      omega
  refine ⟨M3, hrow, fun K => ?_, ⟨?_, hfl2.same c3 (fun b hb x hx => ho b hb x hx), fun b hb => ?_, fun x hx b hb => ?_, ?_⟩, ⟨c3, fun b hb => .inr (by simp at hb; omega)⟩, by omega⟩
  · rw [List.length_append, List.length_singleton]; exact c1 K
  · rw [List.length_append, List.length_singleton, List.flatMap_append]
    simpa [encF] using c2
  · simp at hb
    subst hb
    refine ⟨by omega, fun x hx hbx => ?_⟩
    rcases List.mem_append.1 hx with hx | hx
    · have := (hI2.lo x hx _ hbx).2; omega
    · simp only [List.mem_singleton] at hx
      subst hx
      have := fl2 _ hbx; omega
  · rcases List.mem_append.1 hx with hx | hx
    · have := hI2.lo x hx b hb; omega
    · simp only [List.mem_singleton] at hx
      subst hx
      have := fl2 b hb
      have := hnb b hb
      omega
  · exact (hI2.same.trans c3).mono' fun b hb hlt => by
      have := (hI1.ao b (by simpa using hb)).1; omega

end Go.Proofs.Ytpnknolehckfhaa
