/- The program's flushes and the document's, made side by side. -/
import Derived.Test.YtmpgngilhhmlcaaFlushW
import Derived.Test.YtmpgngilhhmlcaaEqFPlays
import Derived.Test.YtmpgngilhhmlcaaAwakeF
set_option linter.unusedVariables false
set_option linter.unusedSimpArgs false
namespace Go.Proofs.Ytmpgngilhhmlcaa
open Go Go.Ax

/-- One more. -/
theorem MkI.add {M0 M1 M2 : AMem} {o : Option Addr} {oc : Nat} {l : List Fl} {f : Nat} {fo : Option Addr} {fc : Nat} {s : FS} (hI1 : MkI M0.length M0 M1 o oc l) (t : Same M1 M2 []) (b2 : IsFl M2 f fo fc s) (hnb : ∀ b ∈ f :: blk fo, M1.length ≤ b) (hpos : 0 < s.adds.length) (hl : l.length ≤ 1000000) :
    ∃ M3, rowOf (M2 ++ [AObj.cells [.pointer (some ⟨f, 0, none⟩)] ⟨false, 0⟩]) 1 (.slice (some ⟨List.length M2, 0, none⟩) 1 1) = some [.pointer (some ⟨f, 0, none⟩)] ∧
      (∀ K, appendK 1 8 o l.length oc 1 [.pointer (some ⟨f, 0, none⟩)] (M2 ++ [AObj.cells [.pointer (some ⟨f, 0, none⟩)] ⟨false, 0⟩]) K = K (some ⟨M2.length + 1, 0, none⟩) (l ++ [(⟨f, fo, fc, s⟩ : Fl)]).length 1 M3) ∧
      MkI M0.length M0 M3 (some ⟨M2.length + 1, 0, none⟩) 1 (l ++ [⟨f, fo, fc, s⟩]) ∧ Grn M2 o M3 (some ⟨M2.length + 1, 0, none⟩) ∧ M2.length + 2 ≤ M3.length := by
  have hI2 := hI1.st t
  obtain ⟨M3, c1, c2, c3, c4⟩ := append_row (bytes := 8) (v := 0) (new := encF ⟨f, fo, fc, s⟩) (m := 1) hI2.sl rfl (by omega) (by omega)
  have hrow := rowOf_new M2 1 1 (encF ⟨f, fo, fc, s⟩) 0 1 rfl
  unfold encF at c1 hrow
  have le1 := t.le
  have fl2 := b2.lt hpos
  have hM0 := hI1.same.le
  have ho2 := hI2.sl.lt
  have hon : ∀ b ∈ blk o, b < M1.length := fun b hb => hI1.sl.lt b hb
  have ho : ∀ b ∈ blk o, ∀ x ∈ l ++ [(⟨f, fo, fc, s⟩ : Fl)], b ∉ x.bl := fun b hb x hx => by
    rcases List.mem_append.1 hx with hx | hx
    · exact (hI1.ao b hb).2 x hx
    · simp only [List.mem_singleton] at hx
      subst hx
      intro hb2
      have := hnb b hb2
      have := hon b hb
      omega
  have hfl2 : Fls M2 (l ++ [⟨f, fo, fc, s⟩]) := by
    refine ⟨fun x hx => ?_, ?_⟩
    · rcases List.mem_append.1 hx with hx | hx
      · exact hI2.fl.is x hx
      · simp only [List.mem_singleton] at hx
        subst hx
        exact b2
    · rw [List.map_append, List.pairwise_append]
      refine ⟨hI1.fl.nd, by simp, fun a ha b hb x hx hx2 => ?_⟩
      obtain ⟨y, hy, rfl⟩ := List.mem_map.1 ha
      simp only [List.map_cons, List.map_nil, List.mem_singleton] at hb
      subst hb
      have := (hI1.lo y hy x hx).2
      have := hnb x hx2
      omega
  refine ⟨M3, hrow, fun K => ?_, ⟨?_, hfl2.same c3 (fun b hb x hx => ho b hb x hx), fun b hb => ?_, fun x hx b hb => ?_, ?_⟩, ⟨c3, fun b hb => .inr (by simp at hb; omega)⟩, by omega⟩
  · rw [List.length_append, List.length_singleton]; exact c1 K
  · rw [List.length_append, List.length_singleton, List.flatMap_append]
    simpa [encF] using c2
  · simp at hb
    subst hb
    refine ⟨by omega, fun x hx hbx => ?_⟩
    rcases List.mem_append.1 hx with hx | hx
    · have := (hI2.lo x hx _ hbx).2; omega
    · simp only [List.mem_singleton] at hx
      subst hx
      have := fl2 _ hbx; omega
  · rcases List.mem_append.1 hx with hx | hx
    · have := hI2.lo x hx b hb; omega
    · simp only [List.mem_singleton] at hx
      subst hx
      have := fl2 b hb
      have := hnb b hb
      omega
  · exact (hI2.same.trans c3).mono' fun b hb hlt => by
      have := (hI1.ao b (by simpa using hb)).1; omega

/-- Both, that are being made. -/
structure BI (M0 M : AMem) (o : Option Addr) (oc : Nat) (l : List Fl) (q : Option Addr) (qc : Nat) (rs : List Rf) : Prop where
  mki : MkI M0.length M0 M o oc l
  sl : Slc M 6 q rs.length qc (rs.flatMap encR)
  ad : ∀ x ∈ rs, Rd M x.z (x.s.adds.flatMap encA)
  eq : rs.map Rf.s = l.map Fl.s
  qo : ∀ b ∈ blk q, M0.length ≤ b ∧ b ∉ blk o ∧ ∀ x ∈ l, b ∉ x.bl
  zo : ∀ x ∈ rs, M0.length ≤ x.z ∧ x.z ∉ blk o ∧ x.z ∉ blk q ∧ ∀ y ∈ l, x.z ∉ y.bl

theorem BI.len {M0 M : AMem} {o : Option Addr} {oc : Nat} {l : List Fl} {q : Option Addr} {qc : Nat} {rs : List Rf} (h : BI M0 M o oc l q qc rs) : rs.length = l.length := by
  have := congrArg List.length h.eq; simpa using this

theorem BI.st {M0 M M' : AMem} {o : Option Addr} {oc : Nat} {l : List Fl} {q : Option Addr} {qc : Nat} {rs : List Rf} (h : BI M0 M o oc l q qc rs) (s : Same M M' []) : BI M0 M' o oc l q qc rs :=
  ⟨h.mki.st s, h.sl.same s (by simp), fun x hx => (h.ad x hx).same s (by simp), h.eq, h.qo, h.zo⟩

theorem BI.add {M0 M M3 : AMem} {o : Option Addr} {oc : Nat} {l : List Fl} {q : Option Addr} {qc : Nat} {rs : List Rf} (h : BI M0 M o oc l q qc rs) {f : Nat} {fo : Option Addr} {fc : Nat} {s : FS} {o3 : Option Addr} {z c : Nat} (hs : s.adds.length ≤ 1000000) (hl : l.length ≤ 1000000)
    (m3 : MkI M0.length M0 M3 o3 1 (l ++ [⟨f, fo, fc, s⟩])) (tg : Same M M3 (blk o)) (hz : Rd M3 z (s.adds.flatMap encA)) (hz1 : M.length ≤ z ∧ z ∉ blk o3 ∧ z ∉ f :: blk fo) (hnb : ∀ b ∈ f :: blk fo, M.length ≤ b) (ho3 : ∀ b ∈ blk o3, M.length ≤ b) :
    ∃ M4, (∀ K, rowOf (M3 ++ [AObj.cells (encR ⟨z, c, s⟩) ⟨false, 0⟩]) 6 (.slice (some ⟨List.length M3, 0, none⟩) 1 6) = some (encR ⟨z, c, s⟩) ∧ appendK 6 64 q rs.length qc 1 (encR ⟨z, c, s⟩) (M3 ++ [AObj.cells (encR ⟨z, c, s⟩) ⟨false, 0⟩]) K = K (some ⟨M3.length + 1, 0, none⟩) (rs ++ [(⟨z, c, s⟩ : Rf)]).length 6 M4) ∧
      BI M0 M4 o3 1 (l ++ [⟨f, fo, fc, s⟩]) (some ⟨M3.length + 1, 0, none⟩) 6 (rs ++ [⟨z, c, s⟩]) ∧ Same M3 M4 (blk q) := by
  have hlen := h.len
  have sl3 := h.sl.same tg (fun b hb => (h.qo b hb).2.1)
  obtain ⟨M4, c1, c2, c3, c4⟩ := append_row (bytes := 64) (v := 0) (new := encR ⟨z, c, s⟩) (m := 1) sl3 rfl (by omega) (by omega)
  have hrow := rowOf_new M3 6 1 (encR ⟨z, c, s⟩) 0 6 rfl
  have le0 := h.mki.same.le
  have le2 := tg.le
  have hqlt := h.sl.lt
  have hzlt := hz.lt
  have hq3 : ∀ b ∈ blk q, b < M.length := hqlt
  have hqx : ∀ b ∈ blk q, ∀ x ∈ l ++ [(⟨f, fo, fc, s⟩ : Fl)], b ∉ x.bl := fun b hb x hx => by
    rcases List.mem_append.1 hx with hx | hx
    · exact (h.qo b hb).2.2 x hx
    · simp only [List.mem_singleton] at hx
      subst hx
      intro hbx
      have := hnb b hbx
      have := hq3 b hb
      omega
  refine ⟨M4, fun K => ⟨hrow, ?_⟩, ⟨⟨m3.sl.same c3 (fun b hb hbq => ?_), m3.fl.same c3 (fun b hb x hx => hqx b hb x hx), m3.ao, fun x hx b hb => ?_, ?_⟩, ?_, fun x hx => ?_, ?_, fun b hb => ?_, fun x hx => ?_⟩, c3⟩
  · rw [List.length_append, List.length_singleton]; exact c1 K
  · have := ho3 b hb; have := hq3 b hbq; omega
  · have := m3.lo x hx b hb; exact ⟨this.1, by omega⟩
  · exact (m3.same.trans c3).mono' fun b hb hlt => by
      have := (h.qo b (by simpa using hb)).1; omega
  · rw [List.length_append, List.length_singleton, List.flatMap_append]
    simpa using c2
  · rcases List.mem_append.1 hx with hx | hx
    · have h2 := h.zo x hx
      exact ((h.ad x hx).same tg h2.2.1).same c3 h2.2.2.1
    · simp only [List.mem_singleton] at hx
      subst hx
      exact hz.same c3 (fun hb => by have := hq3 _ hb; omega)
  · rw [List.map_append, List.map_append, h.eq]; rfl
  · simp only [blk_some, List.mem_singleton] at hb
    subst hb
    refine ⟨by omega, fun hb => ?_, fun x hx hbx => ?_⟩
    · have := m3.sl.lt _ hb; omega
    · have := (m3.lo x hx _ hbx).2; omega
  · rcases List.mem_append.1 hx with hx | hx
    · obtain ⟨z1, z2, z3, z4⟩ := h.zo x hx
      have hxl := (h.ad x hx).lt
      refine ⟨z1, fun hb => ?_, by simp; omega, fun y hy hb => ?_⟩
      · have := ho3 _ hb; omega
      · rcases List.mem_append.1 hy with hy | hy
        · exact z4 y hy hb
        · simp only [List.mem_singleton] at hy
          subst hy
          have := hnb _ hb; omega
    · simp only [List.mem_singleton] at hx
      subst hx
      refine ⟨by simp only; omega, hz1.2.1, by simp; omega, fun y hy hb => ?_⟩
      rcases List.mem_append.1 hy with hy | hy
      · have : z < M.length := (h.mki.lo y hy _ hb).2; omega
      · simp only [List.mem_singleton] at hy
        subst hy
        exact hz1.2.2 hb

theorem both_loop {N : Nat} {M0 : AMem} {p s : Int} {q : Option Addr} {js : List Jb} {qc : Nat} {w : Option Addr} {wn wc x3 x7 : Nat} {x9 : Option Addr} (hN : N ≤ M0.length) (hl : js.length ≤ 1000) (hes : ∀ j ∈ js, j.es.length ≤ 1000) (hx3 : x3 < M0.length) :
    ∀ (d i : Nat) (M : AMem) (o : Option Addr) (oc : Nat) (l : List Fl) (b : Option Addr) (bc : Nat) (rs : List Rf), i + d = js.length → Jobs N M q js → Rd M x3 [.int .i64 p, .int .i64 s] → BI M0 M o oc l b bc rs → l.length ≤ i → l.map Fl.s = mk33 p s (js.take i) →
    ∃ M' o' oc' l' b' bc' rs', P5_22 LL q js.length qc w wn wc x3 x7 x9 o l.length oc b rs.length bc i M = P5_55 LL w wn wc x7 x9 o' l'.length oc' b' rs'.length bc' 0 M' ∧ BI M0 M' o' oc' l' b' bc' rs' ∧ l'.map Fl.s = mk33 p s js := by
  intro d
  induction d with
  | zero =>
    intro i M o oc l b bc rs hi hj h3 hI hli hm
    rw [P5_22_eq LL L_loop, ifDn (by rw [ofN]; omega), P5_51_eq]
    rw [List.take_of_length_le (by omega)] at hm
    exact ⟨M, o, oc, l, b, bc, rs, rfl, hI, hm⟩
  | succ d ih =>
    intro i M o oc l b bc rs hi hj h3 hI hli hm
    have hil : i < js.length := by omega
    obtain ⟨j, hji⟩ : ∃ j, js[i]? = some j := ⟨_, List.getElem?_eq_getElem hil⟩
    have hjm := List.mem_of_getElem? hji
    have hg : (0 : Int) ≤ (i : Int) ∧ (i : Int) < Int.ofNat js.length := by rw [ofN]; omega
    have hw : IntKind.wrap .i64 ((i : Int) + 1) = ((i + 1 : Nat) : Int) := by rw [w64 (by omega)]; rfl
    have ht : js.take (i + 1) = js.take i ++ [j] := by rw [List.take_add_one, hji]; rfl
    have s1 := same_app M [AObj.cells [.int .i64 0, .slice none 0 0, .int .i64 0, .bool false, .int .u64 0, .int .i64 0] ⟨false, 0⟩]
    have g1 := cells_new M [.int .i64 0, .slice none 0 0, .int .i64 0, .bool false, .int .u64 0, .int .i64 0] 0
    have l1 : (M ++ [AObj.cells [.int .i64 0, .slice none 0 0, .int .i64 0, .bool false, .int .u64 0, .int .i64 0] ⟨false, 0⟩]).length = M.length + 1 := by simp
    rw [P5_22_eq LL L_loop, ifD hg.2]
    generalize M ++ [AObj.cells [.int .i64 0, .slice none 0 0, .int .i64 0, .bool false, .int .u64 0, .int .i64 0] ⟨false, 0⟩] = M1 at s1 g1 l1 ⊢
    obtain ⟨z, rfl, hz, l0, l1'⟩ := (hj.same s1 (by simp)).ld hji
    have h31 := h3.same s1 (by simp)
    have y0 : M1.ld x3 0 = some (.int .i64 p) := h31.ld 0
    have y1 : M1.ld x3 1 = some (.int .i64 s) := h31.ld 1
    have hn := rnew33 (p := p) (s := s) (st := j.st) (es := j.es) (qc := 0) ((hj.same s1 (by simp)).es j hjm).1
    have hM0 := hI.mki.same.le
    simp only [↓if_pos hg, Nat.zero_add, Int.toNat_natCast, ↓bLI y0, ↓bLI y1, ↓bLI l0, ↓bLS l1']
    obtain ⟨_, kl⟩ := lay33_spec p s
    by_cases hok : FlOk p s j.st j.es
    · obtain ⟨M2, ao, ac, e1, e2, e3, e4⟩ := hn.1 hok
      have hchk : chkOk [(15, 11)] [(15, M.length)] [(11, (M1, M2))] = true := by simp [chkOk, List.lookup, ver_same e3 g1.lt (by simp)]
      have g2 := g1.same e3 (by simp)
      have hpos : 0 < (flAdds s j.st j.es).length := by simp [flAdds]
      obtain ⟨zz, rfl, hzz⟩ := e2.2 hpos
      have hjes := hes j hjm
      have el := esAdds_len s j.es
      have hal : (flAdds s j.st j.es).length ≤ 1000000 := by simp only [flAdds, List.length_cons, List.length_append, List.length_nil]; omega
      have hz4 := e4 zz (by simp)
      obtain ⟨M3, v1, v2, v3, v4⟩ := g2.wr (o := 0) (vs := [.int .i64 (1 + 2 * s + 3 * p), .slice (some ⟨zz, 0, none⟩) (flAdds s j.st j.es).length ac, .int .i64 ((flAdds s j.st j.es).length : Nat), .bool false, .int .u64 0, .int .i64 0]) (by simp)
      have v2' : Cells M3 M.length (encR ⟨zz, ac, flNew p s j.st j.es⟩) := by simpa [wrL, encR, flNew] using v2
      have hzz3 : Rd M3 zz ((flAdds s j.st j.es).flatMap encA) := hzz.same v3 (by simp; omega)
      have t3 : Same M M3 [] := ((s1.trans e3).trans v3).mono' (fun b hb hl => by simp at hb; omega)
      have h33 := h3.same t3 (by simp)
      have w0 : M3.ld x3 0 = some (.int .i64 p) := h33.ld 0
      have w1 : M3.ld x3 1 = some (.int .i64 s) := h33.ld 1
      obtain ⟨z', hz'e, hz3, l03, l13⟩ := (hj.same t3 (by simp)).ld hji
      cases hz'e
      obtain ⟨M4, ej, ejc, a1, a2, a3, a4⟩ := of33_spec (qc := 0) ((hj.same t3 (by simp)).es j hjm).1 (by omega)
      have hchk2 : chkOk [(6, 12)] [(6, z)] [(12, (M3, M4))] = true := by simp [chkOk, List.lookup, ver_same a3 hz3.lt (by simp)]
      obtain ⟨M5, f, fo, fc, b1, b2, b3, b4, b5⟩ := (fnew_spec (p := p) (s := s) (st := j.st) (es := j.es) (qc := ejc) a2 (by omega)).1 hok
      have t35 : Same M3 M5 [] := (a3.trans b3).mono (by simp)
      have le3 := a3.le
      have hnb : ∀ b ∈ f :: blk fo, M3.length ≤ b := fun b hb => by
        rcases List.mem_cons.1 hb with rfl | hb
        · omega
        · have := b5 b hb; omega
      have hI3 := hI.st t3
      obtain ⟨M6, r1, r2, r3, r4, r5⟩ := hI3.mki.add t35 b2 hnb (by simpa [flNew] using hpos) (by omega)
      have le5 := t35.le
      have t6 : Same M3 M6 (blk o) := (t35.trans r4.same).mono (by simp)
      have hzz6 : Rd M6 zz ((flNew p s j.st j.es).adds.flatMap encA) := hzz3.same t6 (fun hb => by have := hI.mki.sl.lt _ hb; omega)
      have v6 : Rd M6 M.length (encR ⟨zz, ac, flNew p s j.st j.es⟩) := v2'.rd.same t6 (fun hb => by have := hI.mki.sl.lt _ hb; omega)
      have hzl3 := hzz3.lt
      obtain ⟨M7, n1, n2, n3⟩ := hI.add (c := ac) (s := flNew p s j.st j.es) (by simpa [flNew] using hal) (by omega) r3 ((t3.trans t6).mono (by simp)) hzz6 ⟨by omega, by simp; omega, fun hb => by have := hnb zz hb; omega⟩ (fun b hb => by
        have := hnb b hb; have := t3.le; omega) (fun b hb => by simp at hb; have := t3.le; omega)
      have t7 : Same M M7 (blk o ++ blk b) := ((t3.trans t6).trans n3).mono (by simp)
      have hNo : ∀ b' ∈ blk o ++ blk b, M0.length ≤ b' := fun b' hb' => by
        rcases List.mem_append.1 hb' with hb' | hb'
        · exact (hI.mki.ao b' hb').1
        · exact (hI.qo b' hb').1
      obtain ⟨M', o', oc', l', b', bc', rs', k1, k2, k3⟩ := ih (i + 1) M7 _ 1 _ _ 6 _ (by omega) (hj.same t7 (fun b' hb' => by have := hNo b' hb'; omega)) (h3.same t7 (fun hb' => by have := hNo _ hb'; omega)) n2 (by simp; omega) (by
        rw [ht, mk33_app, List.map_append, hm]
        simp [okJ, hok])
      refine ⟨M', o', oc', l', b', bc', rs', ?_, k2, k3⟩
      have n10 := (n1 (fun _ _ _ _ => none)).1
      have n11 := fun K => (n1 K).2
      obtain ⟨d0, d1, d2, d3, d4, d5⟩ : M6.ld M.length 0 = some (.int .i64 (flNew p s j.st j.es).size) ∧ M6.ld M.length 1 = some (.slice (some ⟨zz, 0, none⟩) (flNew p s j.st j.es).adds.length ac) ∧ M6.ld M.length 2 = some (.int .i64 ((flNew p s j.st j.es).adds.length : Int)) ∧ M6.ld M.length 3 = some (.bool false) ∧ M6.ld M.length 4 = some (.int .u64 0) ∧ M6.ld M.length 5 = some (.int .i64 0) :=
        ⟨v6.ld 0, v6.ld 1, v6.ld 2, v6.ld 3, v6.ld 4, v6.ld 5⟩
      rw [bX e1, bT2, bG0]
      rw [bA6, bI0, bS1, bI2, bB3, bI4, bI5, bG1, bB, bX v1, if_pos hchk, P5_33_eq, bLI w0, bLI w1, bX kl]
      simp only [↓if_pos hg, Nat.zero_add, Int.toNat_natCast, agg2, Option.bind_some, get0, get1, intOf_int, ↓bLI l03, ↓bLS l13, ↓bX a1, ↓bS, ↓bX b1, ↓bP, ↓if_pos hchk2, Option.isNone_some, Bool.not_false, beq_self_eq_true, Bool.not_true, ↓ifF, ↓ifT, ↓bX r1, r2]
      rw [P5_48_eq]
      have hx : encR ⟨zz, ac, flNew p s j.st j.es⟩ = [.int .i64 (flNew p s j.st j.es).size, .slice (some ⟨zz, 0, none⟩) (flNew p s j.st j.es).adds.length ac, .int .i64 ((flNew p s j.st j.es).adds.length : Int), .bool false, .int .u64 0, .int .i64 0] := by simp [encR, flNew]
      rw [hx] at n10 n11
      simp only [↓bLI d0, ↓bLS d1, ↓bLI d2, ↓bLB d3, ↓bLI d4, ↓bLI d5, ↓bX n10, n11]
      rw [P5_50_eq, hw]
      exact k1
    · obtain ⟨M2, e1, e3⟩ := hn.2 hok
      have hchk : chkOk [(15, 11)] [(15, M.length)] [(11, (M1, M2))] = true := by simp [chkOk, List.lookup, ver_same e3 g1.lt (by simp)]
      have g2 := g1.same e3 (by simp)
      obtain ⟨M3, v1, _, _, _, _, _, _, v3⟩ := zw g2 rfl
      have hjes := hes j hjm
      have t3 : Same M M3 [] := ((s1.trans e3).trans v3).mono' (fun b hb hl => by simp at hb; omega)
      have h33 := h3.same t3 (by simp)
      have w0 : M3.ld x3 0 = some (.int .i64 p) := h33.ld 0
      have w1 : M3.ld x3 1 = some (.int .i64 s) := h33.ld 1
      obtain ⟨z', hz'e, hz3, l03, l13⟩ := (hj.same t3 (by simp)).ld hji
      cases hz'e
      obtain ⟨M4, ej, ejc, a1, a2, a3, a4⟩ := of33_spec (qc := 0) ((hj.same t3 (by simp)).es j hjm).1 (by omega)
      have hchk2 : chkOk [(6, 12)] [(6, z)] [(12, (M3, M4))] = true := by simp [chkOk, List.lookup, ver_same a3 hz3.lt (by simp)]
      obtain ⟨M5, b1, b2⟩ := (fnew_spec (p := p) (s := s) (st := j.st) (es := j.es) (qc := ejc) a2 (by omega)).2 hok
      have t5 : Same M M5 [] := ((t3.trans a3).trans b2).mono (by simp)
      obtain ⟨M', o', oc', l', b', bc', rs', k1, k2, k3⟩ := ih (i + 1) M5 o oc l b bc rs (by omega) (hj.same t5 (by simp)) (h3.same t5 (by simp)) (hI.st t5) (by omega) (by
        rw [ht, mk33_app, hm]
        simp [okJ, hok])
      refine ⟨M', o', oc', l', b', bc', rs', ?_, k2, k3⟩
      rw [bX e1, zTup, bT2, bG0]
      rw [bA6, bI0, bS1, bI2, bB3, bI4, bI5, bG1, bB, bX v1, if_pos hchk, P5_33_eq, bLI w0, bLI w1, bX kl]
      simp only [↓if_pos hg, Nat.zero_add, Int.toNat_natCast, agg2, Option.bind_some, get0, get1, intOf_int, ↓bLI l03, ↓bLS l13, ↓bX a1, ↓bS, ↓bX b1, ↓bP, ↓if_pos hchk2, Option.isNone_none, Bool.not_true, beq_self_eq_true, Bool.not_false, ↓ifF, ↓ifT]
      rw [P5_50_eq, hw]
      exact k1

end Go.Proofs.Ytmpgngilhhmlcaa
