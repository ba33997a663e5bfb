/- The program's flushes and the document's, made side by side. -/
import Derived.Test.YtpnknolehckfhaaFlushW
set_option linter.unusedVariables false
set_option linter.unusedSimpArgs false
namespace Go.Proofs.Ytpnknolehckfhaa
open Go Go.Ax

/-- One more. -/
theorem MkI.add {M0 M1 M2 : AMem} {o : Option Addr} {oc : Nat} {l : List Fl} {f : Nat} {fo : Option Addr} {fc : Nat} {s : FS} (hI1 : MkI M0.length M0 M1 o oc l) (t : Same M1 M2 []) (b2 : IsFl M2 f fo fc s) (hnb : ∀ b ∈ f :: blk fo, M1.length ≤ b) (hpos : 0 < s.adds.length) (hl : l.length ≤ 1000000) :
    ∃ M3, rowOf (M2 ++ [AObj.cells [.pointer (some ⟨f, 0, none⟩)] ⟨false, 0⟩]) 1 (.slice (some ⟨List.length M2, 0, none⟩) 1 1) = some [.pointer (some ⟨f, 0, none⟩)] ∧
      (∀ K, appendK 1 8 o l.length oc 1 [.pointer (some ⟨f, 0, none⟩)] (M2 ++ [AObj.cells [.pointer (some ⟨f, 0, none⟩)] ⟨false, 0⟩]) K = K (some ⟨M2.length + 1, 0, none⟩) (l ++ [(⟨f, fo, fc, s⟩ : Fl)]).length 1 M3) ∧
      MkI M0.length M0 M3 (some ⟨M2.length + 1, 0, none⟩) 1 (l ++ [⟨f, fo, fc, s⟩]) ∧ Grn M2 o M3 (some ⟨M2.length + 1, 0, none⟩) ∧ M2.length + 2 ≤ M3.length := by
  have hI2 := hI1.st t
  obtain ⟨M3, c1, c2, c3, c4⟩ := append_row (bytes := 8) (v := 0) (new := encF ⟨f, fo, fc, s⟩) (m := 1) hI2.sl rfl (by omega) (by omega)
  have hrow := rowOf_new M2 1 1 (encF ⟨f, fo, fc, s⟩) 0 1 rfl
  unfold encF at c1 hrow
  have le1 := t.le
  have fl2 := b2.lt hpos
  have hM0 := hI1.same.le
  have ho2 := hI2.sl.lt
  have hon : ∀ b ∈ blk o, b < M1.length := fun b hb => hI1.sl.lt b hb
  have ho : ∀ b ∈ blk o, ∀ x ∈ l ++ [(⟨f, fo, fc, s⟩ : Fl)], b ∉ x.bl := fun b hb x hx => by
    rcases List.mem_append.1 hx with hx | hx
    · exact (hI1.ao b hb).2 x hx
    · simp only [List.mem_singleton] at hx
      subst hx
      intro hb2
      have := hnb b hb2
      have := hon b hb
      omega
  have hfl2 : Fls M2 (l ++ [⟨f, fo, fc, s⟩]) := by
    refine ⟨fun x hx => ?_, ?_⟩
    · rcases List.mem_append.1 hx with hx | hx
      · exact hI2.fl.is x hx
      · simp only [List.mem_singleton] at hx
        subst hx
        exact b2
    · rw [List.map_append, List.pairwise_append]
      refine ⟨hI1.fl.nd, by simp, fun a ha b hb x hx hx2 => ?_⟩
      obtain ⟨y, hy, rfl⟩ := List.mem_map.1 ha
      simp only [List.map_cons, List.map_nil, List.mem_singleton] at hb
      subst hb
      have := (hI1.lo y hy x hx).2
      have := hnb x hx2
      omega
  refine ⟨M3, hrow, fun K => ?_, ⟨?_, hfl2.same c3 (fun b hb x hx => ho b hb x hx), fun b hb => ?_, fun x hx b hb => ?_, ?_⟩, ⟨c3, fun b hb => .inr (by simp at hb; omega)⟩, by omega⟩
  · rw [List.length_append, List.length_singleton]; exact c1 K
  · rw [List.length_append, List.length_singleton, List.flatMap_append]
    simpa [encF] using c2
  · simp at hb
    subst hb
    refine ⟨by omega, fun x hx hbx => ?_⟩
    rcases List.mem_append.1 hx with hx | hx
    · have := (hI2.lo x hx _ hbx).2; omega
    · simp only [List.mem_singleton] at hx
      subst hx
      have := fl2 _ hbx; omega
  · rcases List.mem_append.1 hx with hx | hx
    · have := hI2.lo x hx b hb; omega
    · simp only [List.mem_singleton] at hx
      subst hx
      have := fl2 b hb
      have := hnb b hb
      omega
  · exact (hI2.same.trans c3).mono' fun b hb hlt => by
      have := (hI1.ao b (by simpa using hb)).1; omega

/-- Both, that are being made. -/
structure BI (M0 M : AMem) (o : Option Addr) (oc : Nat) (l : List Fl) (q : Option Addr) (qc : Nat) (rs : List Rf) : Prop where
  mki : MkI M0.length M0 M o oc l
  sl : Slc M 6 q rs.length qc (rs.flatMap encR)
  ad : ∀ x ∈ rs, Rd M x.z (x.s.adds.flatMap encA)
  eq : rs.map Rf.s = l.map Fl.s
  qo : ∀ b ∈ blk q, M0.length ≤ b ∧ b ∉ blk o ∧ ∀ x ∈ l, b ∉ x.bl
  zo : ∀ x ∈ rs, M0.length ≤ x.z ∧ x.z ∉ blk o ∧ x.z ∉ blk q ∧ ∀ y ∈ l, x.z ∉ y.bl

theorem BI.len {M0 M : AMem} {o : Option Addr} {oc : Nat} {l : List Fl} {q : Option Addr} {qc : Nat} {rs : List Rf} (h : BI M0 M o oc l q qc rs) : rs.length = l.length := by
  have := congrArg List.length h.eq; simpa using this

theorem BI.st {M0 M M' : AMem} {o : Option Addr} {oc : Nat} {l : List Fl} {q : Option Addr} {qc : Nat} {rs : List Rf} (h : BI M0 M o oc l q qc rs) (s : Same M M' []) : BI M0 M' o oc l q qc rs :=
  ⟨h.mki.st s, h.sl.same s (by simp), fun x hx => (h.ad x hx).same s (by simp), h.eq, h.qo, h.zo⟩

theorem BI.add {M0 M M3 : AMem} {o : Option Addr} {oc : Nat} {l : List Fl} {q : Option Addr} {qc : Nat} {rs : List Rf} (h : BI M0 M o oc l q qc rs) {f : Nat} {fo : Option Addr} {fc : Nat} {s : FS} {o3 : Option Addr} {z c : Nat} (hs : s.adds.length ≤ 1000000) (hl : l.length ≤ 1000000)
    (m3 : MkI M0.length M0 M3 o3 1 (l ++ [⟨f, fo, fc, s⟩])) (tg : Same M M3 (blk o)) (hz : Rd M3 z (s.adds.flatMap encA)) (hz1 : M.length ≤ z ∧ z ∉ blk o3 ∧ z ∉ f :: blk fo) (hnb : ∀ b ∈ f :: blk fo, M.length ≤ b) (ho3 : ∀ b ∈ blk o3, M.length ≤ b) :
    ∃ M4, (∀ K, rowOf (M3 ++ [AObj.cells (encR ⟨z, c, s⟩) ⟨false, 0⟩]) 6 (.slice (some ⟨List.length M3, 0, none⟩) 1 6) = some (encR ⟨z, c, s⟩) ∧ appendK 6 64 q rs.length qc 1 (encR ⟨z, c, s⟩) (M3 ++ [AObj.cells (encR ⟨z, c, s⟩) ⟨false, 0⟩]) K = K (some ⟨M3.length + 1, 0, none⟩) (rs ++ [(⟨z, c, s⟩ : Rf)]).length 6 M4) ∧
      BI M0 M4 o3 1 (l ++ [⟨f, fo, fc, s⟩]) (some ⟨M3.length + 1, 0, none⟩) 6 (rs ++ [⟨z, c, s⟩]) ∧ Same M3 M4 (blk q) := by
  have hlen := h.len
  have sl3 := h.sl.same tg (fun b hb => (h.qo b hb).2.1)
  obtain ⟨M4, c1, c2, c3, c4⟩ := append_row (bytes := 64) (v := 0) (new := encR ⟨z, c, s⟩) (m := 1) sl3 rfl (by omega) (by omega)
  have hrow := rowOf_new M3 6 1 (encR ⟨z, c, s⟩) 0 6 rfl
  have le0 := h.mki.same.le
  have le2 := tg.le
  have hqlt := h.sl.lt
  have hzlt := hz.lt
  have hq3 : ∀ b ∈ blk q, b < M.length := hqlt
  have hqx : ∀ b ∈ blk q, ∀ x ∈ l ++ [(⟨f, fo, fc, s⟩ : Fl)], b ∉ x.bl := fun b hb x hx => by
    rcases List.mem_append.1 hx with hx | hx
    · exact (h.qo b hb).2.2 x hx
    · simp only [List.mem_singleton] at hx
      subst hx
      intro hbx
      have := hnb b hbx
      have := hq3 b hb
      omega
  refine ⟨M4, fun K => ⟨hrow, ?_⟩, ⟨⟨m3.sl.same c3 (fun b hb hbq => ?_), m3.fl.same c3 (fun b hb x hx => hqx b hb x hx), m3.ao, fun x hx b hb => ?_, ?_⟩, ?_, fun x hx => ?_, ?_, fun b hb => ?_, fun x hx => ?_⟩, c3⟩
  · rw [List.length_append, List.length_singleton]; exact c1 K
  · have := ho3 b hb; have := hq3 b hbq; omega
  · have := m3.lo x hx b hb; exact ⟨this.1, by omega⟩
  · exact (m3.same.trans c3).mono' fun b hb hlt => by
      have := (h.qo b (by simpa using hb)).1; omega
  · rw [List.length_append, List.length_singleton, List.flatMap_append]
    simpa using c2
  · rcases List.mem_append.1 hx with hx | hx
    · have h2 := h.zo x hx
      exact ((h.ad x hx).same tg h2.2.1).same c3 h2.2.2.1
    · simp only [List.mem_singleton] at hx
      subst hx
      exact hz.same c3 (fun hb => by have := hq3 _ hb; omega)
  · rw [List.map_append, List.map_append, h.eq]; rfl
  · simp only [blk_some, List.mem_singleton] at hb
    subst hb
    refine ⟨by omega, fun hb => ?_, fun x hx hbx => ?_⟩
    · have := m3.sl.lt _ hb; omega
    · have := (m3.lo x hx _ hbx).2; omega
  · rcases List.mem_append.1 hx with hx | hx
    · obtain ⟨z1, z2, z3, z4⟩ := h.zo x hx
      have hxl := (h.ad x hx).lt
      refine ⟨z1, fun hb => ?_, by simp; omega, fun y hy hb => ?_⟩
      · have := ho3 _ hb; omega
      · rcases List.mem_append.1 hy with hy | hy
        · exact z4 y hy hb
        · simp only [List.mem_singleton] at hy
          subst hy
          have := hnb _ hb; omega
    · simp only [List.mem_singleton] at hx
      subst hx
      refine ⟨by simp only; omega, hz1.2.1, by simp; omega, fun y hy hb => ?_⟩
      rcases List.mem_append.1 hy with hy | hy
      · have : z < M.length := (h.mki.lo y hy _ hb).2; omega
      · simp only [List.mem_singleton] at hy
        subst hy
        exact hz1.2.2 hb

end Go.Proofs.Ytpnknolehckfhaa
