/- The flushes of jobs. -/
import Derived.Test.YtmpgngilhhmlcaaFlushF
set_option linter.unusedVariables false
set_option linter.unusedSimpArgs false
namespace Go.Proofs.Ytmpgngilhhmlcaa
open Go Go.Ax

def okJ (p s : Int) (j : Jb) : Bool := decide (FlOk p s j.st j.es)
def mk33 (p s : Int) (js : List Jb) : List FS := (js.filter (okJ p s)).map fun j => flNew p s j.st j.es

theorem mk33_app (p s : Int) (js : List Jb) (j : Jb) : mk33 p s (js ++ [j]) = mk33 p s js ++ if okJ p s j = true then [flNew p s j.st j.es] else [] := by
  unfold mk33
  rw [List.filter_append, List.map_append]
  congr 1
  by_cases h : okJ p s j = true
  · simp [h]
  · simp [h]

/-- Flushes that are being made. -/
structure MkI (N0 : Nat) (M0 M : AMem) (o : Option Addr) (oc : Nat) (l : List Fl) : Prop where
  sl : Slc M 1 o l.length oc (l.flatMap encF)
  fl : Fls M l
  ao : ∀ b ∈ blk o, N0 ≤ b ∧ ∀ x ∈ l, b ∉ x.bl
  lo : ∀ x ∈ l, ∀ b ∈ x.bl, N0 ≤ b ∧ b < M.length
  same : Same M0 M []

theorem MkI.st {N0 : Nat} {M0 M M' : AMem} {o : Option Addr} {oc : Nat} {l : List Fl} (h : MkI N0 M0 M o oc l) (s : Same M M' []) : MkI N0 M0 M' o oc l :=
  ⟨h.sl.same s (by simp), h.fl.same s (by simp), h.ao, fun x hx b hb => ⟨(h.lo x hx b hb).1, by have := (h.lo x hx b hb).2; have := s.le; omega⟩, (h.same.trans s).mono (by simp)⟩

theorem made_loop {N : Nat} {M0 : AMem} {p s : Int} {q : Option Addr} {js : List Jb} {qc : Nat} {x2 : Nat} (hN : N ≤ M0.length) (hl : js.length ≤ 1000) (hes : ∀ j ∈ js, j.es.length ≤ 1000000) :
    ∀ (d i : Nat) (M : AMem) (o : Option Addr) (oc : Nat) (l : List Fl), i + d = js.length → Jobs N M q js → Rd M x2 [.int .i64 p, .int .i64 s] → x2 < M0.length → MkI M0.length M0 M o oc l → l.length ≤ i → l.map Fl.s = mk33 p s (js.take i) →
    ∃ M' o' oc' l', P11_8 LL q js.length qc x2 o l.length oc i M = some (.slice o' l'.length oc', M') ∧ MkI M0.length M0 M' o' oc' l' ∧ l'.map Fl.s = mk33 p s js := by
  intro d
  induction d with
  | zero =>
    intro i M o oc l hi hj h2 hx2 hI hli hm
    rw [P11_8_eq LL L_loop, ifDn (by rw [ofN]; omega), P11_25_eq]
    rw [List.take_of_length_le (by omega)] at hm
    exact ⟨M, o, oc, l, rfl, hI, hm⟩
  | succ d ih =>
    intro i M o oc l hi hjb h2 hx2 hI hli hm
    have hil : i < js.length := by omega
    obtain ⟨j, hj⟩ : ∃ j, js[i]? = some j := ⟨_, List.getElem?_eq_getElem hil⟩
    have hjm := List.mem_of_getElem? hj
    obtain ⟨z, rfl, hz, l0, l1⟩ := hjb.ld hj
    have hg : (0 : Int) ≤ (i : Int) ∧ (i : Int) < Int.ofNat js.length := by rw [ofN]; omega
    have hw : IntKind.wrap .i64 ((i : Int) + 1) = ((i + 1 : Nat) : Int) := by rw [w64 (by omega)]; rfl
    have y0 : M.ld x2 0 = some (.int .i64 p) := h2.ld 0
    have y1 : M.ld x2 1 = some (.int .i64 s) := h2.ld 1
    obtain ⟨_, k⟩ := lay33_spec p s
    obtain ⟨M1, e1, e1c, a1, a2, a3, a4⟩ := of33_spec (qc := 0) (hjb.es j hjm).1 (by have := hes j hjm; omega)
    have hzl := hz.lt
    have hchk : chkOk [(6, 12)] [(6, z)] [(12, (M, M1))] = true := by simp [chkOk, List.lookup, ver_same a3 hzl (by simp)]
    have ht : js.take (i + 1) = js.take i ++ [j] := by rw [List.take_add_one, hj]; rfl
    have hn := fnew_spec (p := p) (s := s) (st := j.st) (es := j.es) (qc := e1c) a2 (hes j hjm)
    rw [P11_8_eq LL L_loop, ifD hg.2, bLI y0, bLI y1, bX k]
    by_cases hok : FlOk p s j.st j.es
    · obtain ⟨M2, f, fo, fc, b1, b2, b3, b4, b5⟩ := hn.1 hok
      have t2 : Same M M2 [] := (a3.trans b3).mono (by simp)
      have hI2 := hI.st t2
      obtain ⟨M3, c1, c2, c3⟩ := grn_row (bytes := 8) (new := encF ⟨f, fo, fc, flNew p s j.st j.es⟩) (m := 1) (v := 0) hI2.sl rfl (by omega) (by omega)
      have hrow := rowOf_new M2 1 1 (encF ⟨f, fo, fc, flNew p s j.st j.es⟩) 0 1 rfl
      unfold encF at c1 hrow
      have le1 := a3.le
      have le2 := b3.le
      have fl2 := b2.lt (by simp [flNew, flAdds])
      have hM0 := hI.same.le
      have ho2 := hI2.sl.lt
      have hnb : ∀ b ∈ Fl.bl ⟨f, fo, fc, flNew p s j.st j.es⟩, M1.length ≤ b := fun b hb => by
        rcases List.mem_cons.1 hb with rfl | hb
        · exact b4
        · exact b5 b hb
      have hon : ∀ b ∈ blk o, b < M1.length := fun b hb => by
        have := hI.sl.lt b hb; omega
      have ho : ∀ b ∈ blk o, ∀ x ∈ l ++ [(⟨f, fo, fc, flNew p s j.st j.es⟩ : Fl)], b ∉ x.bl := fun b hb x hx => by
        rcases List.mem_append.1 hx with hx | hx
        · exact (hI.ao b hb).2 x hx
        · simp only [List.mem_singleton] at hx
          subst hx
          intro hb2
          have := hnb b hb2
          have := hon b hb
          omega
      have hfl2 : Fls M2 (l ++ [⟨f, fo, fc, flNew p s j.st j.es⟩]) := by
        refine ⟨fun x hx => ?_, ?_⟩
        · rcases List.mem_append.1 hx with hx | hx
          · exact hI2.fl.is x hx
          · simp only [List.mem_singleton] at hx
            subst hx
            exact b2
        · rw [List.map_append, List.pairwise_append]
          refine ⟨hI.fl.nd, by simp, fun a ha b hb x hx hx2 => ?_⟩
          obtain ⟨y, hy, rfl⟩ := List.mem_map.1 ha
          simp only [List.map_cons, List.map_nil, List.mem_singleton] at hb
          subst hb
          have := (hI.lo y hy x hx).2
          have := hnb x hx2
          omega
      have hI3 : MkI M0.length M0 M3 (some ⟨M2.length + 1, 0, none⟩) 1 (l ++ [⟨f, fo, fc, flNew p s j.st j.es⟩]) := by
        refine ⟨?_, hfl2.same c3.same (fun b hb x hx => ho b hb x hx), fun b hb => ?_, fun x hx b hb => ?_, ?_⟩
        · rw [List.length_append, List.length_singleton, List.flatMap_append]
          simpa [encF] using c2
        · simp at hb
          subst hb
          refine ⟨by omega, fun x hx hbx => ?_⟩
          rcases List.mem_append.1 hx with hx | hx
          · have := (hI2.lo x hx _ hbx).2; omega
          · simp only [List.mem_singleton] at hx
            subst hx
            have := fl2 _ hbx; omega
        · have le3 := c3.same.le
          rcases List.mem_append.1 hx with hx | hx
          · have := hI2.lo x hx b hb; omega
          · simp only [List.mem_singleton] at hx
            subst hx
            have := fl2 b hb
            have := hnb b hb
            omega
        · exact (hI2.same.trans c3.same).mono' fun b hb hlt => by
            have := (hI.ao b (by simpa using hb)).1; omega
      obtain ⟨M', o', oc', l', k1, k2, k3⟩ := ih (i + 1) M3 _ 1 _ (by omega) ((hjb.same t2 (by simp)).same c3.same (fun b hb => by have := (hI.ao b hb).1; omega)) ((h2.same t2 (by simp)).same c3.same (fun hb => by have := (hI.ao _ hb).1; omega)) hx2 hI3 (by simp; omega) (by
        rw [ht, mk33_app, List.map_append, hm]
        simp [okJ, hok])
      refine ⟨M', o', oc', l', ?_, k2, k3⟩
      rw [List.length_append, List.length_singleton] at k1
      simp only [↓if_pos hg, Nat.zero_add, Int.toNat_natCast, agg2, Option.bind_some, get0, get1, intOf_int, ↓bLI l0, ↓bLS l1, ↓bX a1, ↓bS, ↓bX b1, ↓bP, ↓if_pos hchk, Option.isNone_some, Bool.not_false, if_true, ↓bX hrow, c1]
      rw [P11_24_eq, hw]
      exact k1
    · obtain ⟨M2, b1, b2⟩ := hn.2 hok
      have t2 : Same M M2 [] := (a3.trans b2).mono (by simp)
      obtain ⟨M', o', oc', l', k1, k2, k3⟩ := ih (i + 1) M2 o oc l (by omega) (hjb.same t2 (by simp)) (h2.same t2 (by simp)) hx2 (hI.st t2) (by omega) (by
        rw [ht, mk33_app, hm]
        simp [okJ, hok])
      refine ⟨M', o', oc', l', ?_, k2, k3⟩
      simp only [↓if_pos hg, Nat.zero_add, Int.toNat_natCast, agg2, Option.bind_some, get0, get1, intOf_int, ↓bLI l0, ↓bLS l1, ↓bX a1, ↓bS, ↓bX b1, ↓bP, ↓if_pos hchk, Option.isNone_none, Bool.not_true, Bool.false_eq_true, if_false]
      rw [P11_24_eq, hw]
      exact k1

theorem made_spec {N : Nat} {M : AMem} {p s : Int} {q : Option Addr} {js : List Jb} {qc : Nat} (hN : N ≤ M.length) (hj : Jobs N M q js) (hl : js.length ≤ 1000) (hes : ∀ j ∈ js, j.es.length ≤ 1000000) :
    ∃ M' o oc l, LL.call 11 [lay p s, .slice q js.length qc] M = some (.slice o l.length oc, M') ∧ RdL M' encF o l.length l ∧ Fls M' l ∧ (∀ b ∈ blk o, M.length ≤ b ∧ ∀ x ∈ l, b ∉ x.bl) ∧ (∀ x ∈ l, ∀ b ∈ x.bl, M.length ≤ b) ∧ Same M M' [] ∧ l.map Fl.s = mk33 p s js := by
  rw [L_call11, E11]
  have g1 := cells_new M [.int .i64 p, .int .i64 s] 0
  have s1 := same_app M [AObj.cells [.int .i64 p, .int .i64 s] ⟨false, 0⟩]
  have l1 : (M ++ [AObj.cells [.int .i64 p, .int .i64 s] ⟨false, 0⟩]).length = M.length + 1 := by simp
  generalize M ++ [AObj.cells [.int .i64 p, .int .i64 s] ⟨false, 0⟩] = M1 at g1 s1 l1 ⊢
  obtain ⟨M', o', oc', l', k1, k2, k3⟩ := made_loop (x2 := M.length) (qc := qc) (p := p) (s := s) (M0 := M1) (by omega) hl hes js.length 0 M1 none 0 [] (by omega) (hj.same s1 (by simp)) g1.rd (by omega) ⟨.nil _ _ _, ⟨by simp, by simp⟩, by simp, by simp, .refl _ _⟩ (by simp) (by simp [mk33])
  refine ⟨M', o', oc', l', k1, ⟨rfl, fun h0 => ?_⟩, k2.fl, fun b hb => ?_, fun x hx b hb => ?_, (s1.trans k2.same).mono (by simp), k3⟩
  · obtain ⟨a, e1, e2⟩ := k2.sl.pos h0
    exact ⟨a, e1, e2.rd⟩
  · have := k2.ao b hb; exact ⟨by omega, this.2⟩
  · have := k2.lo x hx b hb; omega

end Go.Proofs.Ytmpgngilhhmlcaa
