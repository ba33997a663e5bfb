/- The flushes that a law makes, with their jobs' places; who is done, who has not begun; is none under way. -/
import Derived.Test.YtpnknolehckfhaaWhlB
import Derived.Test.YtpnknolehckfhaaFlushK
import Derived.Test.YtpnknolehckfhaaEqPWhole
import Derived.Test.YtpnknolehckfhaaEqSum34
set_option linter.unusedVariables false
set_option linter.unusedSimpArgs false
namespace Go.Proofs.Ytpnknolehckfhaa
open Go Go.Ax

def pls (kj : List (Nat × Jb)) : List Int := kj.map fun a => (a.1 : Int)

structure WM (M0 M : AMem) (o : Option Addr) (oc : Nat) (l : List Fl) (q : Option Addr) (qc : Nat) (kj : List (Nat × Jb)) : Prop where
  mki : MkI M0.length M0 M o oc l
  sl : Slc M 1 q kj.length qc (ints .i64 (pls kj))
  len : l.length = kj.length
  qo : ∀ b ∈ blk q, M0.length ≤ b ∧ b ∉ blk o ∧ ∀ x ∈ l, b ∉ x.bl

theorem WM.st {M0 M M' : AMem} {o : Option Addr} {oc : Nat} {l : List Fl} {q : Option Addr} {qc : Nat} {kj : List (Nat × Jb)} (h : WM M0 M o oc l q qc kj) (s : Same M M' []) : WM M0 M' o oc l q qc kj :=
  ⟨h.mki.st s, h.sl.same s (by simp), h.len, h.qo⟩

theorem WM.add {M0 M M3 : AMem} {o : Option Addr} {oc : Nat} {l : List Fl} {q : Option Addr} {qc : Nat} {kj : List (Nat × Jb)} (h : WM M0 M o oc l q qc kj) {y : Fl} {o3 : Option Addr} {a : Nat × Jb} (hl : l.length ≤ 1000000)
    (m3 : MkI M0.length M0 M3 o3 1 (l ++ [y])) (tg : Same M M3 (blk o)) (hnb : ∀ b ∈ y.bl, M.length ≤ b) (ho3 : ∀ b ∈ blk o3, M.length ≤ b) :
    ∃ M4, rowOf (M3 ++ [AObj.cells [.int .i64 (a.1 : Int)] ⟨false, 0⟩]) 1 (.slice (some ⟨List.length M3, 0, none⟩) 1 1) = some [.int .i64 (a.1 : Int)] ∧
      (∀ K, appendK 1 8 q kj.length qc 1 [.int .i64 (a.1 : Int)] (M3 ++ [AObj.cells [.int .i64 (a.1 : Int)] ⟨false, 0⟩]) K = K (some ⟨M3.length + 1, 0, none⟩) (kj ++ [a]).length 1 M4) ∧
      WM M0 M4 o3 1 (l ++ [y]) (some ⟨M3.length + 1, 0, none⟩) 1 (kj ++ [a]) ∧ Same M3 M4 (blk q) := by
  have hlen := h.len
  have sl3 := h.sl.same tg (fun b hb => (h.qo b hb).2.1)
  obtain ⟨M4, c1, c2, c3, c4⟩ := append_row (bytes := 8) (v := 0) (new := [.int .i64 (a.1 : Int)]) (m := 1) sl3 rfl (by omega) (by omega)
  have hrow := rowOf_new M3 1 1 [.int .i64 (a.1 : Int)] 0 1 rfl
  have le0 := h.mki.same.le
  have le2 := tg.le
  have hq3 : ∀ b ∈ blk q, b < M.length := h.sl.lt
  have hqx : ∀ b ∈ blk q, ∀ x ∈ l ++ [y], b ∉ x.bl := fun b hb x hx => by
    rcases List.mem_append.1 hx with hx | hx
    · exact (h.qo b hb).2.2 x hx
    · simp only [List.mem_singleton] at hx
      subst hx
      intro hbx
      have := hnb b hbx
      have := hq3 b hb
      omega
  refine ⟨M4, hrow, fun K => ?_, ⟨⟨m3.sl.same c3 (fun b hb hbq => ?_), m3.fl.same c3 (fun b hb x hx => hqx b hb x hx), m3.ao, fun x hx b hb => ?_, ?_⟩, ?_, ?_, fun b hb => ?_⟩, c3⟩
  · rw [List.length_append, List.length_singleton]; exact c1 K
  · have := ho3 b hb; have := hq3 b hbq; omega
  · have := m3.lo x hx b hb; exact ⟨this.1, by omega⟩
  · exact (m3.same.trans c3).mono' fun b hb hlt => by
      have := (h.qo b (by simpa using hb)).1; omega
  · rw [List.length_append, List.length_singleton]
    have : pls (kj ++ [a]) = pls kj ++ [(a.1 : Int)] := by simp [pls]
    rw [this]
    simpa [ints] using c2
  · simp [hlen]
  · simp only [blk_some, List.mem_singleton] at hb
    subst hb
    refine ⟨by omega, fun hb => ?_, fun x hx hbx => ?_⟩
    · have := m3.sl.lt _ hb; omega
    · have := (m3.lo x hx _ hbx).2; omega

theorem wmk_loop {N : Nat} {M0 : AMem} {p s : Int} {q : Option Addr} {js : List Jb} {qc : Nat} {x1 : Int} {w : Option Addr} {wn wc x4 : Nat} {x9 x10 : Option Addr} (hN : N ≤ M0.length) (hl : js.length ≤ 1000) (hes : ∀ j ∈ js, j.es.length ≤ 1000) (hx4 : x4 < M0.length) :
    ∀ (d i : Nat) (M : AMem) (o : Option Addr) (oc : Nat) (l : List Fl) (b : Option Addr) (bc : Nat), i + d = js.length → Jobs N M q js → Rd M x4 [.int .i64 p, .int .i64 s] → WM M0 M o oc l b bc (kjf p s 0 (js.take i)) → l.length ≤ i → Wk p s (kjf p s 0 (js.take i)) l → (∀ x ∈ l, Good (szN p s) x.s ∧ x.s.nx = 0 ∧ x.s.lost = 0) →
    ∃ M' o' oc' l' b' bc', P3_22 LL x1 q js.length qc w wn wc x4 x9 x10 o l.length oc b (kjf p s 0 (js.take i)).length bc i M = P3_41 LL x1 q js.length qc w wn wc x4 x9 x10 o' l'.length oc' b' (kjf p s 0 js).length bc' M' ∧
      WM M0 M' o' oc' l' b' bc' (kjf p s 0 js) ∧ Wk p s (kjf p s 0 js) l' ∧ l'.length ≤ js.length ∧ ∀ x ∈ l', Good (szN p s) x.s ∧ x.s.nx = 0 ∧ x.s.lost = 0 := by
  intro d
  induction d with
  | zero =>
    intro i M o oc l b bc hi hj h4 hI hli hk hz
    rw [P3_22_eq LL L_loop, ifDn (by rw [ofN]; omega)]
    rw [List.take_of_length_le (by omega)] at hI hk ⊢
    exact ⟨M, o, oc, l, b, bc, rfl, hI, hk, by omega, hz⟩
  | succ d ih =>
    intro i M o oc l b bc hi hj h4 hI hli hk hz
    have hil : i < js.length := by omega
    obtain ⟨j, hji⟩ : ∃ j, js[i]? = some j := ⟨_, List.getElem?_eq_getElem hil⟩
    have hjm := List.mem_of_getElem? hji
    obtain ⟨z, rfl, hzr, l0, l1⟩ := hj.ld hji
    have hg : (0 : Int) ≤ (i : Int) ∧ (i : Int) < Int.ofNat js.length := by rw [ofN]; omega
    have hw : IntKind.wrap .i64 ((i : Int) + 1) = ((i + 1 : Nat) : Int) := by rw [w64 (by omega)]; rfl
    have ht : js.take (i + 1) = js.take i ++ [j] := by rw [List.take_add_one, hji]; rfl
    have htl : (js.take i).length = i := by rw [List.length_take]; omega
    have hks := kjf_snoc p s (js.take i) 0 j
    rw [htl, Nat.zero_add] at hks
    have y0 : M.ld x4 0 = some (.int .i64 p) := h4.ld 0
    have y1 : M.ld x4 1 = some (.int .i64 s) := h4.ld 1
    obtain ⟨_, k⟩ := lay33_spec p s
    obtain ⟨M1, e1, e1c, a1, a2, a3, a4⟩ := of33_spec (qc := 0) (hj.es j hjm).1 (by have := hes j hjm; omega)
    have hzl := hzr.lt
    have hchk : chkOk [(6, 12)] [(6, z)] [(12, (M, M1))] = true := by simp [chkOk, List.lookup, ver_same a3 hzl (by simp)]
    have hfn := fnew_spec (p := p) (s := s) (st := j.st) (es := j.es) (qc := e1c) a2 (by have := hes j hjm; omega)
    have le1 := a3.le
    have hM0 := hI.mki.same.le
    rw [P3_22_eq LL L_loop, ifD hg.2, bLI y0, bLI y1, bX k]
    simp only [↓if_pos hg, Nat.zero_add, Int.toNat_natCast, agg2, Option.bind_some, get0, get1, intOf_int, ↓bLI l0, ↓bLS l1, ↓bX a1, ↓bS]
    by_cases hok : FlOk p s j.st j.es
    · have hokJ : okJ p s j = true := decide_eq_true hok
      rw [if_pos hokJ] at hks
      obtain ⟨M2, f, fo, fc, b1, b2, b3, b4, b5⟩ := hfn.1 hok
      have t2 : Same M M2 [] := (a3.trans b3).mono (by simp)
      have hnb : ∀ b ∈ f :: blk fo, M.length ≤ b := fun b hb => by
        rcases List.mem_cons.1 hb with rfl | hb
        · omega
        · have := b5 b hb; omega
      obtain ⟨M3, r1, r2, r3, r4, r5⟩ := hI.mki.add t2 b2 hnb (by simp [flNew, flAdds]) (by omega)
      have le2 := t2.le
      have t3 : Same M M3 (blk o) := (t2.trans r4.same).mono (by simp)
      obtain ⟨M4, n0, n1, n2, n3⟩ := hI.add (a := (i, j)) (by omega) r3 t3 hnb (fun b hb => by simp at hb; omega)
      have t4 : Same M M4 (blk o ++ blk b) := t3.trans n3
      have hNo : ∀ b' ∈ blk o ++ blk b, M0.length ≤ b' := fun b' hb' => by
        rcases List.mem_append.1 hb' with hb' | hb'
        · exact (hI.mki.ao b' hb').1
        · exact (hI.qo b' hb').1
      have hJo : Jo p s (flNew p s j.st j.es) j.st j.es := ⟨hok, rfl, Nat.zero_le _⟩
      have hk' : Wk p s (kjf p s 0 (js.take i) ++ [(i, j)]) (l ++ [⟨f, fo, fc, flNew p s j.st j.es⟩]) := by
        refine ⟨by rw [List.length_append, List.length_append, hk.len]; rfl, fun g x a hx ha => ?_⟩
        by_cases hgl : g < l.length
        · rw [List.getElem?_append_left hgl] at hx
          rw [List.getElem?_append_left (by rw [← hk.len]; exact hgl)] at ha
          exact hk.jo g x a hx ha
        · have hgl2 := (List.getElem?_eq_some_iff.1 hx).1
          rw [List.length_append, List.length_singleton] at hgl2
          obtain rfl : g = l.length := by omega
          have hk1 := hk.len
          rw [List.getElem?_append_right (by omega), Nat.sub_self] at hx
          rw [List.getElem?_append_right (by omega), hk1, Nat.sub_self] at ha
          simp only [List.getElem?_cons_zero, Option.some.injEq] at hx ha
          subst hx ha
          exact hJo
      have n0' : rowOf (M3 ++ [AObj.cells [.int .i64 (i : Int)] ⟨false, 0⟩]) 1 (.slice (some ⟨List.length M3, 0, none⟩) 1 1) = some [.int .i64 (i : Int)] := n0
      have n1' : ∀ K, appendK 1 8 b (kjf p s 0 (js.take i)).length bc 1 [.int .i64 (i : Int)] (M3 ++ [AObj.cells [.int .i64 (i : Int)] ⟨false, 0⟩]) K = K (some ⟨M3.length + 1, 0, none⟩) (kjf p s 0 (js.take i) ++ [(i, j)]).length 1 M4 := n1
      have hrec := ih (i + 1) M4 (some ⟨M2.length + 1, 0, none⟩) 1 (l ++ [⟨f, fo, fc, flNew p s j.st j.es⟩]) (some ⟨M3.length + 1, 0, none⟩) 1 (by omega) (hj.same t4 (fun b' hb' => by have := hNo b' hb'; omega)) (h4.same t4 (fun hb' => by have := hNo _ hb'; omega))
        (by rw [ht, hks]; exact n2) (by simp; omega) (by rw [ht, hks]; exact hk') (fun x hx => by
          rcases List.mem_append.1 hx with hx | hx
          · exact hz x hx
          · simp only [List.mem_singleton] at hx
            subst hx
            exact ⟨flNew_good hok, rfl, rfl⟩)
      rw [ht, hks] at hrec
      obtain ⟨M', o', oc', l', b', bc', k1, k2⟩ := hrec
      refine ⟨M', o', oc', l', b', bc', ?_, k2⟩
      rw [bX b1, bP, if_pos hchk]
      simp only [Option.isNone_some, Bool.not_false, if_true, ↓bX r1, r2, ↓bX n0', n1']
      rw [P3_40_eq, hw]
      exact k1
    · have hokJ : ¬ okJ p s j = true := by unfold okJ; simpa using hok
      rw [if_neg hokJ, List.append_nil] at hks
      obtain ⟨M2, b1, b2⟩ := hfn.2 hok
      have t2 : Same M M2 [] := (a3.trans b2).mono (by simp)
      have hrec := ih (i + 1) M2 o oc l b bc (by omega) (hj.same t2 (by simp)) (h4.same t2 (by simp)) (by rw [ht, hks]; exact hI.st t2) (by omega) (by rw [ht, hks]; exact hk) hz
      rw [ht, hks] at hrec
      obtain ⟨M', o', oc', l', b', bc', k1, k2⟩ := hrec
      refine ⟨M', o', oc', l', b', bc', ?_, k2⟩
      rw [bX b1, bP, if_pos hchk]
      simp only [Option.isNone_none, Bool.not_true, Bool.false_eq_true, if_false]
      rw [P3_40_eq, hw]
      exact k1

end Go.Proofs.Ytpnknolehckfhaa
