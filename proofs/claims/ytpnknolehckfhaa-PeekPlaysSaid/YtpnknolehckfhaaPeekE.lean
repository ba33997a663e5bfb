/- The document's flushes first, then the program's: made side by side. -/
import Derived.Test.YtpnknolehckfhaaFlushY
import Derived.Test.YtpnknolehckfhaaPeekD
import Derived.Test.YtpnknolehckfhaaEqPPlays
set_option linter.unusedVariables false
set_option linter.unusedSimpArgs false
namespace Go.Proofs.Ytpnknolehckfhaa
open Go Go.Ax

theorem MkI.same' {M0 M M' : AMem} {o : Option Addr} {oc : Nat} {l : List Fl} {S : List Nat} (h : MkI M0.length M0 M o oc l) (k : Same M M' S) (h1 : ∀ b ∈ S, M0.length ≤ b ∧ b ∉ blk o ∧ ∀ x ∈ l, b ∉ x.bl) : MkI M0.length M0 M' o oc l :=
  ⟨h.sl.same k (fun b hb hbs => (h1 b hbs).2.1 hb), h.fl.same k (fun b hb x hx => (h1 b hb).2.2 x hx), h.ao, fun x hx b hb => ⟨(h.lo x hx b hb).1, by have := (h.lo x hx b hb).2; have := k.le; omega⟩,
    (h.same.trans k).mono' fun b hb hlt => by have := (h1 b (by simpa using hb)).1; omega⟩

/-- The document's one comes first. -/
theorem BI.addq {M0 M M3 : AMem} {o : Option Addr} {oc : Nat} {l : List Fl} {q : Option Addr} {qc : Nat} {rs : List Rf} (h : BI M0 M o oc l q qc rs) {s : FS} {z c : Nat} (hl : l.length ≤ 1000000) (t : Same M M3 []) :
    ∃ M4, (∀ K, rowOf (M3 ++ [AObj.cells (encR ⟨z, c, s⟩) ⟨false, 0⟩]) 6 (.slice (some ⟨List.length M3, 0, none⟩) 1 6) = some (encR ⟨z, c, s⟩) ∧ appendK 6 64 q rs.length qc 1 (encR ⟨z, c, s⟩) (M3 ++ [AObj.cells (encR ⟨z, c, s⟩) ⟨false, 0⟩]) K = K (some ⟨M3.length + 1, 0, none⟩) (rs ++ [(⟨z, c, s⟩ : Rf)]).length 6 M4) ∧
      Slc M4 6 (some ⟨M3.length + 1, 0, none⟩) (rs ++ [(⟨z, c, s⟩ : Rf)]).length 6 ((rs ++ [(⟨z, c, s⟩ : Rf)]).flatMap encR) ∧ Same M3 M4 (blk q) ∧ MkI M0.length M0 M4 o oc l ∧ M4.length = M3.length + 2 := by
  have hlen := h.len
  obtain ⟨M4, c1, c2, c3, c4⟩ := append_row (bytes := 64) (v := 0) (new := encR ⟨z, c, s⟩) (m := 1) (h.sl.same t (by simp)) rfl (by omega) (by omega)
  have hrow := rowOf_new M3 6 1 (encR ⟨z, c, s⟩) 0 6 rfl
  refine ⟨M4, fun K => ⟨hrow, ?_⟩, ?_, c3, (h.mki.st t).same' c3 h.qo, c4⟩
  · rw [List.length_append, List.length_singleton]; exact c1 K
  · rw [List.length_append, List.length_singleton, List.flatMap_append]
    simpa using c2

theorem BI.add2 {M0 M M3 M4 M6 M7 : AMem} {o : Option Addr} {oc : Nat} {l : List Fl} {q : Option Addr} {qc : Nat} {rs : List Rf} (h : BI M0 M o oc l q qc rs) {f : Nat} {fo : Option Addr} {fc : Nat} {s : FS} {z c : Nat}
    (t3 : Same M M3 []) (t4 : Same M3 M4 (blk q)) (l4 : M4.length = M3.length + 2) (t6 : Same M4 M6 []) (t7 : Same M6 M7 (blk o)) (sl4 : Slc M4 6 (some ⟨M3.length + 1, 0, none⟩) (rs ++ [(⟨z, c, s⟩ : Rf)]).length 6 ((rs ++ [(⟨z, c, s⟩ : Rf)]).flatMap encR)) (hz : Rd M3 z (s.adds.flatMap encA)) (hz1 : M.length ≤ z)
    (m7 : MkI M0.length M0 M7 (some ⟨M6.length + 1, 0, none⟩) 1 (l ++ [⟨f, fo, fc, s⟩])) (hnb : ∀ b ∈ f :: blk fo, M4.length ≤ b) :
    BI M0 M7 (some ⟨M6.length + 1, 0, none⟩) 1 (l ++ [⟨f, fo, fc, s⟩]) (some ⟨M3.length + 1, 0, none⟩) 6 (rs ++ [⟨z, c, s⟩]) := by
  have le0 := h.mki.same.le
  have le3 := t3.le
  have le6 := t6.le
  have hol : ∀ b ∈ blk o, b < M.length := h.mki.sl.lt
  have hql : ∀ b ∈ blk q, b < M.length := h.sl.lt
  have hzl := hz.lt
  refine ⟨m7, ?_, fun x hx => ?_, ?_, fun b hb => ?_, fun x hx => ?_⟩
  · refine (sl4.same t6 (by simp)).same t7 fun b hb hbo => ?_
    simp only [blk_some, List.mem_singleton] at hb
    have := hol b hbo; omega
  · rcases List.mem_append.1 hx with hx | hx
    · obtain ⟨z1, z2, z3, z4⟩ := h.zo x hx
      exact ((((h.ad x hx).same t3 (by simp)).same t4 z3).same t6 (by simp)).same t7 z2
    · simp only [List.mem_singleton] at hx
      subst hx
      exact ((hz.same t4 (fun hb => by have := hql _ hb; omega)).same t6 (by simp)).same t7 (fun hb => by have := hol _ hb; omega)
  · rw [List.map_append, List.map_append, h.eq]; rfl
  · simp only [blk_some, List.mem_singleton] at hb
    subst hb
    refine ⟨by omega, by simp; omega, fun x hx hbx => ?_⟩
    rcases List.mem_append.1 hx with hx | hx
    · have := (h.mki.lo x hx _ hbx).2; omega
    · simp only [List.mem_singleton] at hx
      subst hx
      have := hnb _ hbx; omega
  · rcases List.mem_append.1 hx with hx | hx
    · obtain ⟨z1, z2, z3, z4⟩ := h.zo x hx
      have hxl := (h.ad x hx).lt
      refine ⟨z1, by simp; omega, by simp; omega, fun y hy hb => ?_⟩
      rcases List.mem_append.1 hy with hy | hy
      · exact z4 y hy hb
      · simp only [List.mem_singleton] at hy
        subst hy
        have := hnb _ hb; omega
    · simp only [List.mem_singleton] at hx
      subst hx
      refine ⟨by simp only; omega, by simp; omega, by simp; omega, fun y hy hb => ?_⟩
      rcases List.mem_append.1 hy with hy | hy
      · have : z < M.length := (h.mki.lo y hy _ hb).2
        omega
      · simp only [List.mem_singleton] at hy
        subst hy
        have : M4.length ≤ z := hnb _ hb
        omega

theorem both34_loop {N : Nat} {M0 : AMem} {p s : Int} {q : Option Addr} {js : List Jb} {qc : Nat} {w : Option Addr} {wn wc x4 x9 x13 : Nat} {x11 x12 : Option Addr} (hN : N ≤ M0.length) (hl : js.length ≤ 1000) (hes : ∀ j ∈ js, j.es.length ≤ 1000) (hx4 : x4 < M0.length) :
    ∀ (d i : Nat) (M : AMem) (o : Option Addr) (oc : Nat) (l : List Fl) (b : Option Addr) (bc : Nat) (rs : List Rf), i + d = js.length → Jobs N M q js → Rd M x4 [.int .i64 p, .int .i64 s] → BI M0 M o oc l b bc rs → l.length ≤ i → l.map Fl.s = mk33 p s (js.take i) →
    ∃ M' o' oc' l' b' bc' rs', P4_34 LL q js.length qc w wn wc x4 x9 x11 x12 x13 b rs.length bc o l.length oc i M = P4_57 LL w wn wc x4 x9 x11 x12 x13 b' rs'.length bc' o' l'.length oc' 0 M' ∧ BI M0 M' o' oc' l' b' bc' rs' ∧ l'.map Fl.s = mk33 p s js := by
  intro d
  induction d with
  | zero =>
    intro i M o oc l b bc rs hi hj h3 hI hli hm
    rw [P4_34_eq LL L_loop, ifDn (by rw [ofN]; omega), P4_53_eq]
    rw [List.take_of_length_le (by omega)] at hm
    exact ⟨M, o, oc, l, b, bc, rs, rfl, hI, hm⟩
  | succ d ih =>
    intro i M o oc l b bc rs hi hj h3 hI hli hm
    have hil : i < js.length := by omega
    obtain ⟨j, hji⟩ : ∃ j, js[i]? = some j := ⟨_, List.getElem?_eq_getElem hil⟩
    have hjm := List.mem_of_getElem? hji
    have hg : (0 : Int) ≤ (i : Int) ∧ (i : Int) < Int.ofNat js.length := by rw [ofN]; omega
    have hw : IntKind.wrap .i64 ((i : Int) + 1) = ((i + 1 : Nat) : Int) := by rw [w64 (by omega)]; rfl
    have ht : js.take (i + 1) = js.take i ++ [j] := by rw [List.take_add_one, hji]; rfl
    have s1 := same_app M [AObj.cells [.int .i64 0, .slice none 0 0, .int .i64 0, .bool false, .int .u64 0, .int .i64 0] ⟨false, 0⟩]
    have g1 := cells_new M [.int .i64 0, .slice none 0 0, .int .i64 0, .bool false, .int .u64 0, .int .i64 0] 0
    have l1 : (M ++ [AObj.cells [.int .i64 0, .slice none 0 0, .int .i64 0, .bool false, .int .u64 0, .int .i64 0] ⟨false, 0⟩]).length = M.length + 1 := by simp
    rw [P4_34_eq LL L_loop, ifD hg.2]
    generalize M ++ [AObj.cells [.int .i64 0, .slice none 0 0, .int .i64 0, .bool false, .int .u64 0, .int .i64 0] ⟨false, 0⟩] = M1 at s1 g1 l1 ⊢
    obtain ⟨z, rfl, hz, l0, l1'⟩ := (hj.same s1 (by simp)).ld hji
    have h31 := h3.same s1 (by simp)
    have y0 : M1.ld x4 0 = some (.int .i64 p) := h31.ld 0
    have y1 : M1.ld x4 1 = some (.int .i64 s) := h31.ld 1
    have hn := rnew33 (p := p) (s := s) (st := j.st) (es := j.es) (qc := 0) ((hj.same s1 (by simp)).es j hjm).1
    have hM0 := hI.mki.same.le
    have hlen := hI.len
    simp only [↓if_pos hg, Nat.zero_add, Int.toNat_natCast, ↓bLI y0, ↓bLI y1, ↓bLI l0, ↓bLS l1']
    obtain ⟨_, kl⟩ := lay33_spec p s
    by_cases hok : FlOk p s j.st j.es
    · obtain ⟨M2, ao, ac, e1, e2, e3, e4⟩ := hn.1 hok
      have hchk : chkOk [(15, 11)] [(15, M.length)] [(11, (M1, M2))] = true := by simp [chkOk, List.lookup, ver_same e3 g1.lt (by simp)]
      have g2 := g1.same e3 (by simp)
      have hpos : 0 < (flAdds s j.st j.es).length := by simp [flAdds]
      obtain ⟨zz, rfl, hzz⟩ := e2.2 hpos
      have hjes := hes j hjm
      have el := esAdds_len s j.es
      have hal : (flAdds s j.st j.es).length ≤ 1000000 := by simp only [flAdds, List.length_cons, List.length_append, List.length_nil]; omega
      have hz4 := e4 zz (by simp)
      obtain ⟨M3, v1, v2, v3, v4⟩ := g2.wr (o := 0) (vs := [.int .i64 (1 + 2 * s + 3 * p), .slice (some ⟨zz, 0, none⟩) (flAdds s j.st j.es).length ac, .int .i64 ((flAdds s j.st j.es).length : Nat), .bool false, .int .u64 0, .int .i64 0]) (by simp)
      have v2' : Cells M3 M.length (encR ⟨zz, ac, flNew p s j.st j.es⟩) := by simpa [wrL, encR, flNew] using v2
      have hzz3 : Rd M3 zz ((flAdds s j.st j.es).flatMap encA) := hzz.same v3 (by simp; omega)
      have t3 : Same M M3 [] := ((s1.trans e3).trans v3).mono' (fun b hb hl => by simp at hb; omega)
      obtain ⟨M4, n1, n2, n3, n4, n5⟩ := hI.addq (s := flNew p s j.st j.es) (z := zz) (c := ac) (by omega) t3
      have n10 := (n1 (fun _ _ _ _ => none)).1
      have n11 := fun K => (n1 K).2
      have t34 : Same M M4 (blk b) := (t3.trans n3).mono (by simp)
      have hNb : ∀ b' ∈ blk b, M0.length ≤ b' := fun b' hb' => (hI.qo b' hb').1
      have h34 := h3.same t34 (fun hb' => by have := hNb _ hb'; omega)
      have w0 : M4.ld x4 0 = some (.int .i64 p) := h34.ld 0
      have w1 : M4.ld x4 1 = some (.int .i64 s) := h34.ld 1
      have hj4 := hj.same t34 (fun b' hb' => by have := hNb b' hb'; omega)
      obtain ⟨z', hz'e, hz3, l03, l13⟩ := hj4.ld hji
      cases hz'e
      obtain ⟨M5, ej, ejc, a1, a2, a3, a4⟩ := of33_spec (qc := 0) (hj4.es j hjm).1 (by omega)
      have hchk2 : chkOk [(7, 13)] [(7, z)] [(13, (M4, M5))] = true := by simp [chkOk, List.lookup, ver_same a3 hz3.lt (by simp)]
      obtain ⟨M6, f, fo, fc, b1, b2, b3, b4, b5⟩ := (fnew_spec (p := p) (s := s) (st := j.st) (es := j.es) (qc := ejc) a2 (by omega)).1 hok
      have t46 : Same M4 M6 [] := (a3.trans b3).mono (by simp)
      have le4 := a3.le
      have hnb : ∀ b ∈ f :: blk fo, M4.length ≤ b := fun b hb => by
        rcases List.mem_cons.1 hb with rfl | hb
        · omega
        · have := b5 b hb; omega
      obtain ⟨M7, r1, r2, r3, r4, r5⟩ := n4.add t46 b2 hnb (by simpa [flNew] using hpos) (by omega)
      have hB := hI.add2 (c := ac) t3 n3 n5 t46 r4.same n2 hzz3 (by omega) r3 hnb
      have t7 : Same M M7 (blk b ++ blk o) := ((t34.trans t46).trans r4.same).mono (by simp)
      have hNo : ∀ b' ∈ blk b ++ blk o, M0.length ≤ b' := fun b' hb' => by
        rcases List.mem_append.1 hb' with hb' | hb'
        · exact hNb b' hb'
        · exact (hI.mki.ao b' hb').1
      obtain ⟨M', o', oc', l', b', bc', rs', k1, k2, k3⟩ := ih (i + 1) M7 _ 1 _ _ 6 _ (by omega) (hj.same t7 (fun b' hb' => by have := hNo b' hb'; omega)) (h3.same t7 (fun hb' => by have := hNo _ hb'; omega)) hB (by simp; omega) (by
        rw [ht, mk33_app, List.map_append, hm]
        simp [okJ, hok])
      refine ⟨M', o', oc', l', b', bc', rs', ?_, k2, k3⟩
      obtain ⟨d0, d1, d2, d3, d4, d5⟩ : M3.ld M.length 0 = some (.int .i64 (flNew p s j.st j.es).size) ∧ M3.ld M.length 1 = some (.slice (some ⟨zz, 0, none⟩) (flNew p s j.st j.es).adds.length ac) ∧ M3.ld M.length 2 = some (.int .i64 ((flNew p s j.st j.es).adds.length : Int)) ∧ M3.ld M.length 3 = some (.bool false) ∧ M3.ld M.length 4 = some (.int .u64 0) ∧ M3.ld M.length 5 = some (.int .i64 0) :=
        ⟨v2'.ld 0, v2'.ld 1, v2'.ld 2, v2'.ld 3, v2'.ld 4, v2'.ld 5⟩
      have hx : encR ⟨zz, ac, flNew p s j.st j.es⟩ = [.int .i64 (flNew p s j.st j.es).size, .slice (some ⟨zz, 0, none⟩) (flNew p s j.st j.es).adds.length ac, .int .i64 ((flNew p s j.st j.es).adds.length : Int), .bool false, .int .u64 0, .int .i64 0] := by simp [encR, flNew]
      rw [hx] at n10 n11
      rw [bX e1, bT2, bG0]
      rw [bA6, bI0, bS1, bI2, bB3, bI4, bI5, bG1, bB, bX v1, if_pos hchk, P4_45_eq, ifT]
      simp only [↓bLI d0, ↓bLS d1, ↓bLI d2, ↓bLB d3, ↓bLI d4, ↓bLI d5, ↓bX n10, n11, ↓bLI w0, ↓bLI w1, ↓bX kl]
      simp only [↓if_pos hg, Nat.zero_add, Int.toNat_natCast, agg2, Option.bind_some, get0, get1, intOf_int, ↓bLI l03, ↓bLS l13, ↓bX a1, ↓bS, ↓bX b1, ↓bP, ↓bX r1, r2, ↓if_pos hchk2]
      rw [P4_52_eq, hw]
      exact k1
    · obtain ⟨M2, e1, e3⟩ := hn.2 hok
      have hchk : chkOk [(15, 11)] [(15, M.length)] [(11, (M1, M2))] = true := by simp [chkOk, List.lookup, ver_same e3 g1.lt (by simp)]
      have g2 := g1.same e3 (by simp)
      obtain ⟨M3, v1, _, _, _, _, _, _, v3⟩ := zw g2 rfl
      have t3 : Same M M3 [] := ((s1.trans e3).trans v3).mono' (fun b hb hl => by simp at hb; omega)
      obtain ⟨M', o', oc', l', b', bc', rs', k1, k2, k3⟩ := ih (i + 1) M3 o oc l b bc rs (by omega) (hj.same t3 (by simp)) (h3.same t3 (by simp)) (hI.st t3) (by omega) (by
        rw [ht, mk33_app, hm]
        simp [okJ, hok])
      refine ⟨M', o', oc', l', b', bc', rs', ?_, k2, k3⟩
      rw [bX e1, zTup, bT2, bG0]
      rw [bA6, bI0, bS1, bI2, bB3, bI4, bI5, bG1, bB, bX v1, if_pos hchk, P4_45_eq, ifF, P4_52_eq, hw]
      exact k1

end Go.Proofs.Ytpnknolehckfhaa
