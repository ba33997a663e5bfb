/- PeekPlays: whatever a look reads while flushes go on, whether it is done, its tries, its picture, or why there is none, are the document's. -/
import Derived.Test.YtpnknolehckfhaaRows
import Derived.Test.YtpnknolehckfhaaPeekF
import Derived.Test.YtpnknolehckfhaaPeekArg
set_option linter.unusedVariables false
set_option linter.unusedSimpArgs false
namespace Go.Proofs.Ytpnknolehckfhaa
open Go Go.Ax
open Go.ChangeShapes Go.WideShapes Go.ChangeAt Go.RowKit

theorem rdi_same {M M' : AMem} {S : List Nat} {k : IntKind} {p : Option Addr} {n : Nat} {l : List Int} (h : RdI M k p n l) (hs : Same M M' S) (hb : 0 < n → ∀ x ∈ blk p, x ∉ S) : RdI M' k p n l :=
  ⟨h.1, fun hn => let ⟨a, e, hc⟩ := h.2 hn; ⟨a, e, hc.same hs (hb hn a (by rw [e]; simp))⟩⟩

theorem mk33_not {p s : Int} (h : ¬ Rt p s) (js : List Jb) : mk33 p s js = [] := by
  unfold mk33
  rw [List.map_eq_nil_iff, List.filter_eq_nil_iff]
  intro j _ hj
  unfold okJ at hj
  exact h (of_decide_eq_true hj).1.1

def rpTup (p s mo e : Int) (ok : Bool) : Value := .tuple #[.agg #[.int .i64 p, .int .i64 s, .int .i64 mo, .int .i64 0, .slice none 0 0, .int .i64 e], .bool ok]

/-- The document's New. -/
theorem rpnew_spec (p s t : Int) (M : AMem) : ∃ M', LL.call 24 [lay p s, .int .i64 t] M = some (if Rt p s ∧ 1 ≤ t ∧ t ≤ 1000 then rpTup p s t 13 true else rpTup 0 0 0 13 false, M') ∧ Same M M' [] := by
  rw [L_call24, E24]
  have g0 := cells_new M [.int .i64 p, .int .i64 s] 0
  have s0 := same_app M [AObj.cells [.int .i64 p, .int .i64 s] ⟨false, 0⟩]
  have l0 : (M ++ [AObj.cells [.int .i64 p, .int .i64 s] ⟨false, 0⟩]).length = M.length + 1 := by simp
  generalize M ++ [AObj.cells [.int .i64 p, .int .i64 s] ⟨false, 0⟩] = M0 at g0 s0 l0 ⊢
  have g1 := cells_new M0 [.int .i64 0, .int .i64 0, .int .i64 0, .int .i64 0, .slice none 0 0, .int .i64 0] 0
  have s1 := same_app M0 [AObj.cells [.int .i64 0, .int .i64 0, .int .i64 0, .int .i64 0, .slice none 0 0, .int .i64 0] ⟨false, 0⟩]
  have g0' := g0.same s1 (by simp)
  generalize M0 ++ [AObj.cells [.int .i64 0, .int .i64 0, .int .i64 0, .int .i64 0, .slice none 0 0, .int .i64 0] ⟨false, 0⟩] = M1 at g1 s1 g0' ⊢
  have y0 : M1.ld M.length 0 = some (.int .i64 p) := g0'.ld 0
  have y1 : M1.ld M.length 1 = some (.int .i64 s) := g0'.ld 1
  obtain ⟨_, k⟩ := right12_spec p s
  have wr : ∀ a b c e : Int, ∃ M2, AMem.wr M1 M0.length 0 [.int .i64 a, .int .i64 b, .int .i64 c, .int .i64 0, .slice none 0 0, .int .i64 e] = some M2 ∧ Cells M2 M0.length [.int .i64 a, .int .i64 b, .int .i64 c, .int .i64 0, .slice none 0 0, .int .i64 e] ∧ Same M M2 [] := fun a b c e => by
    obtain ⟨M2, w1, w2, w3, w4⟩ := g1.wr (o := 0) (vs := [.int .i64 a, .int .i64 b, .int .i64 c, .int .i64 0, .slice none 0 0, .int .i64 e]) (by simp)
    exact ⟨M2, w1, by simpa [wrL] using w2, ((s0.trans s1).trans w3).mono' (fun b hb hl => by simp at hb; omega)⟩
  obtain ⟨Mn, n1, n2, n3⟩ := wr 0 0 0 13
  have q0 : Mn.ld M0.length 0 = some (.int .i64 0) := n2.ld 0
  have q1 : Mn.ld M0.length 1 = some (.int .i64 0) := n2.ld 1
  have q2 : Mn.ld M0.length 2 = some (.int .i64 0) := n2.ld 2
  have q3 : Mn.ld M0.length 3 = some (.int .i64 0) := n2.ld 3
  have q4 : Mn.ld M0.length 4 = some (.slice none 0 0) := n2.ld 4
  have q5 : Mn.ld M0.length 5 = some (.int .i64 13) := n2.ld 5
  rw [bLI y0, bLI y1, bX k, bB]
  by_cases hR : Rt p s
  · rw [decide_eq_true hR, ifNT]
    by_cases c1 : t < 1
    · rw [ifD c1, bX n1, bLI q0, bLI q1, bLI q2, bLI q3, bLS q4, bLI q5, if_neg (by omega)]
      exact ⟨Mn, rfl, n3⟩
    rw [ifDn c1]
    by_cases c2 : t > 1000
    · rw [ifD c2, bX n1, bLI q0, bLI q1, bLI q2, bLI q3, bLS q4, bLI q5, if_neg (by omega)]
      exact ⟨Mn, rfl, n3⟩
    rw [ifDn c2, bLI y0, bLI y1]
    obtain ⟨M2, w1, w2, w3⟩ := wr p s t 13
    have u0 : M2.ld M0.length 0 = some (.int .i64 p) := w2.ld 0
    have u1 : M2.ld M0.length 1 = some (.int .i64 s) := w2.ld 1
    have u2 : M2.ld M0.length 2 = some (.int .i64 t) := w2.ld 2
    have u3 : M2.ld M0.length 3 = some (.int .i64 0) := w2.ld 3
    have u4 : M2.ld M0.length 4 = some (.slice none 0 0) := w2.ld 4
    have u5 : M2.ld M0.length 5 = some (.int .i64 13) := w2.ld 5
    rw [bX w1, bLI u0, bLI u1, bLI u2, bLI u3, bLS u4, bLI u5, if_pos ⟨hR, by omega, by omega⟩]
    exact ⟨M2, rfl, w3⟩
  · rw [decide_eq_false hR, ifNF, bX n1, bLI q0, bLI q1, bLI q2, bLI q3, bLS q4, bLI q5, if_neg (fun h => hR h.1)]
    exact ⟨Mn, rfl, n3⟩

theorem bI3' {β : Type} (k : IntKind) (x y z : Value) (a : Int) (l : List Value) (f : Int → Option β) : Option.bind (intOf? k ((x :: y :: z :: .int k a :: l)[3]?)) f = f a := bI k a f
theorem bS4 {β : Type} (x y z w : Value) (p : Option Addr) (n c : Nat) (l : List Value) (f : Option Addr × Nat × Nat → Option β) : Option.bind (sliceOf? ((x :: y :: z :: w :: .slice p n c :: l)[4]?)) f = f (p, n, c) := bS p n c f

theorem pplays2 {N A0 : Nat} {M : AMem} {p s t : Int} {q w : Option Addr} {js : List Jb} {ord : List Int} (hj : Jobs N M q js) (hNM : A0 < N ∧ N ≤ M.length) (g1 : Rd M A0 [.int .i64 p, .int .i64 s]) (hr : RdI M .u8 w ord.length ord) (hord : ∀ x ∈ ord, 0 ≤ x ∧ x < 256) (hw : 0 < ord.length → ∀ b ∈ blk w, b < N)
    (hsml : Rt p s → p ≤ 10 ∧ s ≤ 4) (hf : js.length ≤ 6 ∧ totJ js ≤ 16) (ho : ord.length ≤ 200) :
    ∃ A', P4_5 LL t q js.length 0 w ord.length 0 A0 false M = some (.bool true, A') := by
  have y0 : M.ld A0 0 = some (.int .i64 p) := g1.ld 0
  have y1 : M.ld A0 1 = some (.int .i64 s) := g1.ld 1
  have he24 : ∀ j ∈ js, j.es.length ≤ 24 := fun j hjm => by have := totJ_mem hjm; omega
  obtain ⟨sz, hsz⟩ : ∃ sz : Int, sz = if Rt p s then 1 + 2 * s + 3 * p else 0 := ⟨_, rfl⟩
  have hszr : 0 ≤ sz ∧ sz ≤ 1000 := by
    by_cases hR : Rt p s
    · have := hsml hR
      obtain ⟨h1, h2, h3, h4⟩ := hR
      rw [if_pos ⟨h1, h2, h3, h4⟩] at hsz; omega
    · rw [if_neg hR] at hsz; omega
  obtain ⟨_, k2⟩ := rsize31_spec p s
  rw [← hsz] at k2
  obtain ⟨M1, pr, e1, e2, e3, e4⟩ := rnew_spec sz M (by omega)
  have s2 := same_app M1 [AObj.cells [.slice none 0 0, .int .i64 0, .int .i64 0] ⟨false, 0⟩]
  have g2 := cells_new M1 [.slice none 0 0, .int .i64 0, .int .i64 0] 0
  have l2 : (M1 ++ [AObj.cells [.slice none 0 0, .int .i64 0, .int .i64 0] ⟨false, 0⟩]).length = M1.length + 1 := by simp
  rw [P4_5_eq, ifF, bLI y0, bLI y1, bX k2, bI, bX e1, bT2, bG0, bA3, bS0, bI1, bI2, bG1, bB]
  simp only
  generalize M1 ++ [AObj.cells [.slice none 0 0, .int .i64 0, .int .i64 0] ⟨false, 0⟩] = M2 at s2 g2 l2 ⊢
  obtain ⟨M3, w1, w2, w3, w4⟩ := g2.wr (o := 0) (vs := [.slice pr sz.toNat 1, .int .i64 0, .int .i64 0]) (by simp)
  have w2' : Cells M3 M1.length [.slice pr sz.toNat 1, .int .i64 0, .int .i64 0] := by simpa [wrL] using w2
  have hlr : (List.replicate sz.toNat (0 : Int)).length = sz.toNat := by simp
  have t13 : Same M1 M3 [] := (s2.trans w3).mono' (fun b hb hl => by simp at hb; omega)
  have href : IsRef M3 M1.length pr 1 (List.replicate sz.toNat 0) 0 0 := by
    have hprl := e2.lt
    refine ⟨by rw [hlr]; exact w2', by rw [hlr]; exact e2.same t13 (by simp), fun hb => by have := hprl _ hb; omega⟩
  have t3 : Same M M3 [] := (e3.trans t13).mono (by simp)
  have g3 := g1.same t3 (by simp)
  have z0 : M3.ld A0 0 = some (.int .i64 p) := g3.ld 0
  have z1 : M3.ld A0 1 = some (.int .i64 s) := g3.ld 1
  obtain ⟨M4, mb, ma, n1, n2, n3, n4, n5, n6, n7⟩ := new_spec sz M3 (by omega)
  have le1 := e3.le
  have le2 := t13.le
  have le3 := n3.le
  have t4 : Same M M4 [] := (t3.trans n3).mono (by simp)
  have g4 := g1.same t4 (by simp)
  have x0 : M4.ld A0 0 = some (.int .i64 p) := g4.ld 0
  have x1 : M4.ld A0 1 = some (.int .i64 s) := g4.ld 1
  obtain ⟨_, kl⟩ := lay33_spec p s
  rw [bX w1, bLI z0, bLI z1, bX k2, bI, bX n1, bP, bLI x0, bLI x1, bX kl]
  simp only [agg2, Option.bind_some, get0, get1, intOf_int]
  have hprlt := href.cs.lt
  have hMlt := href.hd.lt
  -- a look of the program's
  have look : ∃ M5 pp xo, LL.call 11 [lay p s, .int .i64 t] M4 = some (.pointer pp, M5) ∧ Same M4 M5 [] ∧ (if Rt p s ∧ 1 ≤ t ∧ t ≤ 1000 then xo = some (pkNew p s t) ∧ ∃ b be bb bf, pp = some ⟨b, 0, none⟩ ∧ IsPk M5 b be bb bf (pkNew p s t) ∧ ∀ z ∈ [b, be, bb, bf], M4.length ≤ z else xo = none ∧ pp = none) := by
    by_cases hc : Rt p s ∧ 1 ≤ t ∧ t ≤ 1000
    · obtain ⟨M5, b, be, bb, bf, k1, k2, k3, k4⟩ := pnew_spec M4 hc.1 hc.2
      exact ⟨M5, _, _, k1, k3, by rw [if_pos hc]; exact ⟨rfl, b, be, bb, bf, rfl, k2, k4⟩⟩
    · obtain ⟨M5, k1, k2⟩ := pnew_not M4 hc
      exact ⟨M5, none, none, k1, k2, by rw [if_neg hc]; exact ⟨rfl, rfl⟩⟩
  obtain ⟨M5, pp, xo, a1, a2, a3⟩ := look
  have g5 := g4.same a2 (by simp)
  have u0 : M5.ld A0 0 = some (.int .i64 p) := g5.ld 0
  have u1 : M5.ld A0 1 = some (.int .i64 s) := g5.ld 1
  obtain ⟨M6, b1, b2⟩ := rpnew_spec p s t M5
  rw [bX a1, bP, bLI u0, bLI u1, bX b1]
  have g7 := cells_new M6 [.int .i64 0, .int .i64 0, .int .i64 0, .int .i64 0, .slice none 0 0, .int .i64 0] 0
  have s7 := same_app M6 [AObj.cells [.int .i64 0, .int .i64 0, .int .i64 0, .int .i64 0, .slice none 0 0, .int .i64 0] ⟨false, 0⟩]
  have l7 : (M6 ++ [AObj.cells [.int .i64 0, .int .i64 0, .int .i64 0, .int .i64 0, .slice none 0 0, .int .i64 0] ⟨false, 0⟩]).length = M6.length + 1 := by simp
  -- the document's
  have le5 := a2.le
  have le6 := b2.le
  have both : ∃ M8, Lk N (fun z => M3.length ≤ z ∧ z < M4.length ∨ z = M1.length ∨ z ∈ blk pr ∨ M8.length ≤ z ∧ z < M8.length) M8 pp M6.length xo ∧ Same M6 M8 [] ∧ M6.length < M8.length ∧
      (Option.bind (tupOf? 2 (if Rt p s ∧ 1 ≤ t ∧ t ≤ 1000 then rpTup p s t 13 true else rpTup 0 0 0 13 false)) fun cs_34 =>
      (Option.bind (cs_34[0]?) fun u_35 =>
      (Option.bind (aggOf? 6 u_35) fun cs_36 =>
      (Option.bind (intOf? .i64 (cs_36[0]?)) fun x_37 =>
      (Option.bind (intOf? .i64 (cs_36[1]?)) fun x_38 =>
      (Option.bind (intOf? .i64 (cs_36[2]?)) fun x_39 =>
      (Option.bind (intOf? .i64 (cs_36[3]?)) fun x_40 =>
      (Option.bind (sliceOf? (cs_36[4]?)) fun s_41 =>
      (Option.bind (intOf? .i64 (cs_36[5]?)) fun x_42 =>
      (Option.bind (cs_34[1]?) fun u_43 =>
      (Option.bind (boolOf? (some u_43)) fun q_44 =>
      (Option.bind (AMem.wr (M6 ++ [AObj.cells [.int .i64 0, .int .i64 0, .int .i64 0, .int .i64 0, .slice none 0 0, .int .i64 0] ⟨false, 0⟩]) (List.length M6) 0 [.int .i64 x_37, .int .i64 x_38, .int .i64 x_39, .int .i64 x_40, .slice s_41.1 s_41.2.1 s_41.2.2, .int .i64 x_42]) fun M_45 =>
      P4_18 LL q js.length 0 w ord.length 0 A0 M1.length (some ⟨mb, 0, none⟩) pp (List.length M6) q_44 M_45)))))))))))) = P4_34 LL q js.length 0 w ord.length 0 A0 M1.length (some ⟨mb, 0, none⟩) pp M6.length none 0 0 none 0 0 0 M8 := by
    by_cases hc : Rt p s ∧ 1 ≤ t ∧ t ≤ 1000
    · rw [if_pos hc] at a3
      obtain ⟨rfl, b, be, bb, bf, rfl, c1, c2⟩ := a3
      obtain ⟨M8, v1, v2, v3, v4⟩ := g7.wr (o := 0) (vs := [.int .i64 p, .int .i64 s, .int .i64 t, .int .i64 0, .slice none 0 0, .int .i64 13]) (by simp)
      have v2' : Cells M8 M6.length [.int .i64 p, .int .i64 s, .int .i64 t, .int .i64 0, .slice none 0 0, .int .i64 13] := by simpa [wrL] using v2
      have t8 : Same M6 M8 [] := (s7.trans v3).mono' (fun b hb hl => by simp at hb; omega)
      have t58 : Same M5 M8 [] := (b2.trans t8).mono (by simp)
      obtain ⟨hR, h1, h2⟩ := hc
      obtain ⟨r1, r2, r3, r4⟩ := hR
      have hlt : ∀ z ∈ [b, be, bb, bf], z < M6.length := fun z hz => by
        simp only [List.mem_cons, List.not_mem_nil, or_false] at hz
        rcases hz with rfl | rfl | rfl | rfl
        · have := c1.hd.lt; omega
        · have := c1.ce.lt; omega
        · have := c1.cb.lt; omega
        · have := c1.cf.lt; omega
      refine ⟨M8, ⟨b, be, bb, bf, none, 0, rfl, c1.same t58 (by simp) (by simp) (by simp) (by simp), ⟨?_, Slc.nil _ _ _, by simp, by unfold EnOk; rw [if_neg (by simp [pkNew])]; rfl⟩, fun z hz => ?_, fun hb => ?_, by simp⟩, t8, by omega, ?_⟩
      · show Cells M8 M6.length [.int .i64 ((p.toNat : Nat) : Int), .int .i64 ((s.toNat : Nat) : Int), .int .i64 ((t.toNat : Nat) : Int), .int .i64 ((0 : Nat) : Int), .slice none 0 0, .int .i64 13]
        rw [show ((p.toNat : Nat) : Int) = p by omega, show ((s.toNat : Nat) : Int) = s by omega, show ((t.toNat : Nat) : Int) = t by omega]
        exact v2'
      · have hz' : z ∈ [b, be, bb, bf] ∨ z = M6.length := by simpa [or_assoc] using hz
        have hzl : M4.length ≤ z := by
          rcases hz' with h | h
          · exact c2 z h
          · omega
        refine ⟨by omega, fun hd => ?_⟩
        rcases hd with h | h | h | h
        · omega
        · omega
        · have := hprlt z h; omega
        · omega
      · have := hlt _ hb; omega
      · rw [if_pos ⟨⟨r1, r2, r3, r4⟩, h1, h2⟩, rpTup, bT2, bG0, bA6, bI0, bI1, bI2, bI3', bS4, bI5, bG1, bB]
        simp only
        rw [bX v1, P4_18_eq]
        rw [show (!((!(Option.isNone (some (⟨b, 0, none⟩ : Addr)))) == true)) = false by simp, ifF]
    · rw [if_neg hc] at a3
      obtain ⟨rfl, rfl⟩ := a3
      obtain ⟨M8, v1, v2, v3, v4⟩ := g7.wr (o := 0) (vs := pkNone) (by simp [pkNone])
      have v2' : Cells M8 M6.length pkNone := by simpa [wrL, pkNone] using v2
      have t8 : Same M6 M8 [] := (s7.trans v3).mono' (fun b hb hl => by simp at hb; omega)
      unfold pkNone at v1
      refine ⟨M8, ⟨rfl, v2', by omega, fun hd => ?_⟩, t8, by omega, ?_⟩
      · rcases hd with h | h | h | h
        · omega
        · omega
        · have := hprlt _ h; omega
        · omega
      · rw [if_neg hc, rpTup, bT2, bG0, bA6, bI0, bI1, bI2, bI3', bS4, bI5, bG1, bB]
        simp only
        rw [bX v1, P4_18_eq, show (!((!(Option.isNone (none : Option Addr))) == false)) = false by simp, ifF]
  obtain ⟨M8, c1, c2, c3, c4⟩ := both
  have t48 : Same M4 M8 [] := ((a2.trans b2).trans c2).mono (by simp)
  have t8 : Same M M8 [] := (t4.trans t48).mono (by simp)
  obtain ⟨M9, o, oc, l, b, bc, rs, k3, hB, k5⟩ := both34_loop (N := N) (p := p) (s := s) (q := q) (js := js) (qc := 0) (w := w) (wn := ord.length) (wc := 0) (x4 := A0) (x9 := M1.length) (x11 := some ⟨mb, 0, none⟩) (x12 := pp) (x13 := M6.length) (M0 := M8) (by omega) (by omega) (fun j hjm => by have := he24 j hjm; omega) (by omega)
    js.length 0 M8 none 0 [] none 0 [] (by omega) (hj.same t8 (by simp)) (g1.same t8 (by simp)) ⟨⟨.nil _ _ _, ⟨by simp, by simp⟩, by simp, by simp, .refl _ _⟩, .nil _ _ _, by simp, rfl, by simp, by simp⟩ (by simp) (by simp [mk33])
  have hrsl := hB.len
  have k3' : P4_34 LL q js.length 0 w ord.length 0 A0 M1.length (some ⟨mb, 0, none⟩) pp M6.length none 0 0 none 0 0 0 M8 = _ := k3
  have sM := hB.mki.same
  have leM := sM.le
  have t49 : Same M4 M9 [] := (t48.trans sM).mono (by simp)
  have hgd : ∀ x ∈ l, Good sz.toNat x.s ∧ x.s.rd = false ∧ x.s.nx = 0 ∧ x.s.lost = 0 := fun x hx => by
    have hm : x.s ∈ mk33 p s js := by rw [← k5]; exact List.mem_map_of_mem hx
    by_cases hR : Rt p s
    · have : sz.toNat = szN p s := by rw [hsz, if_pos hR]; rfl
      rw [this]
      exact mk33_good hm
    · rw [mk33_not hR] at hm; simp at hm
  have hpos : ∀ x ∈ l, 0 < x.s.adds.length := fun x hx => by
    have hm : x.s ∈ mk33 p s js := by rw [← k5]; exact List.mem_map_of_mem hx
    unfold mk33 at hm
    obtain ⟨j, _, e⟩ := List.mem_map.1 hm
    rw [← e]; simp [flNew, flAdds]
  have hsys : Sys N M9 mb ma (List.replicate sz.toNat 0) 0 0 o l := by
    refine ⟨n2.same t49 (by simp) (by simp), hB.mki.fl, ⟨rfl, fun h0 => ?_⟩, fun x hx => ⟨fun hb => ?_, fun hb => ?_⟩, fun b hb => ⟨?_, ?_, (hB.mki.ao b hb).2⟩, by omega, by omega, fun x hx b hb => ?_⟩
    · obtain ⟨a, h1, h2⟩ := hB.mki.sl.pos h0
      exact ⟨a, h1, h2.rd⟩
    · have := (hB.mki.lo x hx _ hb).1; omega
    · have := (hB.mki.lo x hx _ hb).1; omega
    · have := (hB.mki.ao b hb).1; omega
    · have := (hB.mki.ao b hb).1; omega
    · have := (hB.mki.lo x hx b hb).1; omega
  have hPI : PI N sz.toNat M9 mb ma (List.replicate sz.toNat 0) 0 0 o l 0 M1.length pr 1 b bc rs := by
    refine ⟨⟨hsys, fun x hx => (hgd x hx).1, hlr, Nat.le_refl _, Nat.le_refl _, fun x hx => by have := (hgd x hx).2.2.2; omega⟩, (href.same n3 (by simp) (by simp)).same t49 (by simp) (by simp), hB.sl, hB.ad, hB.eq, fun x hx => ?_, fun b' hb => ?_, fun b' hb => ?_, fun x hx => ?_⟩
    · have hm : x.s ∈ rs.map Rf.s := List.mem_map_of_mem hx
      rw [hB.eq, k5] at hm
      unfold mk33 at hm
      obtain ⟨j, hjj, e⟩ := List.mem_map.1 hm
      have := he24 j (List.mem_filter.1 hjj).1
      have el := esAdds_len s j.es
      rw [← e]
      simp only [flNew, flAdds, List.length_cons, List.length_append, List.length_nil]
      omega
    · simp only [List.mem_append, List.mem_cons, List.mem_map] at hb
      have hold : N ≤ b' → b' < M3.length → N ≤ b' ∧ b' ≠ mb ∧ b' ≠ ma ∧ b' ∉ blk o ∧ ∀ x ∈ l, b' ∉ x.bl := fun h1 h2 =>
        ⟨h1, by omega, by omega, fun h => by have := (hB.mki.ao b' h).1; omega, fun x hx h => by have := (hB.mki.lo x hx b' h).1; omega⟩
      rcases hb with (rfl | hb | hb) | ⟨x, hx, rfl⟩
      · exact hold (by omega) (by omega)
      · have := e4 b' hb
        exact hold (by omega) (hprlt b' hb)
      · obtain ⟨q1, q2, q3⟩ := hB.qo b' hb
        exact ⟨by omega, by omega, by omega, q2, q3⟩
      · obtain ⟨q1, q2, q3, q4⟩ := hB.zo x hx
        exact ⟨by omega, by omega, by omega, q2, q4⟩
    · obtain ⟨q1, _⟩ := hB.qo b' hb
      exact ⟨by omega, fun h => by have := hprlt b' h; omega⟩
    · obtain ⟨q1, q2, q3, q4⟩ := hB.zo x hx
      exact ⟨by omega, fun h => by have := hprlt _ h; omega, q3⟩
  -- the flushes' blocks
  obtain ⟨D, hD⟩ : ∃ D : Nat → Prop, D = fun z => (M3.length ≤ z ∧ z < M4.length ∨ z = M1.length ∨ z ∈ blk pr) ∨ M8.length ≤ z ∧ z < M9.length := ⟨_, rfl⟩
  have hlk8 : Lk N D M8 pp M6.length xo := by
    have conv : ∀ z, N ≤ z → ¬ (M3.length ≤ z ∧ z < M4.length ∨ z = M1.length ∨ z ∈ blk pr ∨ M8.length ≤ z ∧ z < M8.length) → z < M8.length → ¬ D z := fun z _ h hz hd => by
      rw [hD] at hd
      rcases hd with (hd | hd | hd) | hd
      · exact h (.inl hd)
      · exact h (.inr (.inl hd))
      · exact h (.inr (.inr (.inl hd)))
      · omega
    cases xo with
    | none =>
      obtain ⟨q1, q2, q3, q4⟩ := c1
      exact ⟨q1, q2, q3, conv _ q3 q4 c3⟩
    | some x =>
      obtain ⟨b, be, bb, bf, rp, rc, e, h1⟩ := c1
      refine ⟨b, be, bb, bf, rp, rc, e, h1.pk, h1.rk, fun z hz => ⟨(h1.dj z hz).1, conv z (h1.dj z hz).1 (h1.dj z hz).2 ?_⟩, h1.q1, h1.q2⟩
      simp only [List.mem_append, List.mem_cons, List.not_mem_nil, or_false] at hz
      rcases hz with (rfl | rfl | rfl | rfl | rfl) | hz
      · exact h1.pk.hd.lt
      · exact h1.pk.ce.lt
      · exact h1.pk.cb.lt
      · exact h1.pk.cf.lt
      · exact h1.rk.hd.lt
      · exact h1.rk.sl.lt z hz
  have hlk : Lk N D M9 pp M6.length xo := hlk8.same sM (by simp)
  have hQ : QI N sz.toNat M9.length D M9 mb ma (List.replicate sz.toNat 0) 0 0 o l 0 M1.length pr 1 b bc rs pp M6.length xo := by
    refine ⟨hPI, hlk, fun z hz => ?_, fun x hx z hz => ?_, fun x hx => ?_, Nat.le_refl _⟩
    · rw [hD]
      simp only [List.mem_cons, List.mem_append] at hz
      rcases hz with rfl | rfl | rfl | (hz | hz) | hz
      · exact .inl (.inl (by omega))
      · exact .inl (.inl (by omega))
      · exact .inl (.inr (.inl rfl))
      · exact .inl (.inr (.inr hz))
      · have := (hB.qo z hz).1; have := hB.sl.lt z hz; exact .inr ⟨by omega, by omega⟩
      · have := (hB.mki.ao z hz).1; have := hB.mki.sl.lt z hz; exact .inr ⟨by omega, by omega⟩
    · rw [hD]
      have := hB.mki.lo x hx z hz; exact .inr ⟨by omega, by omega⟩
    · rw [hD]
      have := (hB.zo x hx).1; have := (hB.ad x hx).lt; exact .inr ⟨by omega, by omega⟩
  have t9 : Same M M9 [] := (t8.trans sM).mono (by simp)
  have hml := congrArg List.length k5
  have hmk : (mk33 p s js).length ≤ js.length := by unfold mk33; rw [List.length_map]; exact List.length_filter_le _ _
  rw [List.length_map] at hml
  obtain ⟨M', e⟩ := plays34_loop (oc := oc) (nl := l.length) (wc := 0) (n := sz.toNat) (K1 := M9.length) (D := D) (x4 := A0) (pz := p) (sz := s) (fun z hz => by
      rw [hD] at hz
      rcases hz with (hz | hz | hz) | hz
      · omega
      · omega
      · have := hprlt z hz; omega
      · omega) (by omega) (by omega) ⟨fun hz => by
      rw [hD] at hz
      rcases hz with (hz | hz | hz) | hz
      · omega
      · omega
      · have := e4 A0 hz; omega
      · omega, hNM.1⟩ hord ho hw ord.length 0 M9 _ 0 0 l rs xo (by omega) rfl (rdi_same hr t9 (by simp)) (g1.same t9 (by simp)) hQ
  refine ⟨M', ?_⟩
  rw [c4, k3', hrsl]
  exact e

theorem pplays (A : AMem) (p s t : Int) (q w : Option Addr) (js : List Jb) (ord : List Int) (hj : Jobs A.length A q js) (hr : RdI A .u8 w ord.length ord) (hord : ∀ x ∈ ord, 0 ≤ x ∧ x < 256) (hw : 0 < ord.length → ∀ b ∈ blk w, b < A.length) (hjl : js.length ≤ 1000000000000000) (hes : ∀ j ∈ js, j.es.length ≤ 1000000000000000) :
    ∃ A', LL.call 4 [lay p s, .int .i64 t, .slice q js.length 0, .slice w ord.length 0] A = some (.bool true, A') := by
  rw [L_call4, E4]
  obtain ⟨_, aw⟩ := awake34
  have g1 := cells_new A [.int .i64 p, .int .i64 s] 0
  have s1 := same_app A [AObj.cells [.int .i64 p, .int .i64 s] ⟨false, 0⟩]
  have l1 : (A ++ [AObj.cells [.int .i64 p, .int .i64 s] ⟨false, 0⟩]).length = A.length + 1 := by simp
  generalize A ++ [AObj.cells [.int .i64 p, .int .i64 s] ⟨false, 0⟩] = M at g1 s1 l1 ⊢
  have y0 : M.ld A.length 0 = some (.int .i64 p) := g1.ld 0
  have y1 : M.ld A.length 1 = some (.int .i64 s) := g1.ld 1
  have hj1 := hj.same s1 (by simp)
  have hr1 := hr.same s1 (by simp)
  obtain ⟨_, k⟩ := right12_spec p s
  have off : ∃ A', P4_5 LL t q js.length 0 w ord.length 0 A.length true M = some (.bool true, A') := by
    rw [P4_5_eq, ifT, bX aw, bB]
    exact ⟨_, rfl⟩
  have rest : (Rt p s → p ≤ 10 ∧ s ≤ 4) → ∃ A', (Option.bind (LL.call 7 [.slice q js.length 0] M) fun r_7 =>
          (Option.bind (boolOf? (some r_7.1)) fun q_8 =>
          (if (!q_8) = true
          then P4_5 LL t q js.length 0 w ord.length 0 A.length true r_7.2
          else P4_5 LL t q js.length 0 w ord.length 0 A.length (decide ((Int.ofNat ord.length) > 200)) r_7.2))) = some (.bool true, A') := fun hsml => by
    rw [bX (fits34_spec hj1 hjl hes), bB]
    by_cases hf : js.length ≤ 6 ∧ totJ js ≤ 16
    · rw [decide_eq_true hf, ifNT]
      by_cases ho : Int.ofNat ord.length > 200
      · rw [decide_eq_true ho]; exact off
      · rw [decide_eq_false ho]
        rw [ofN] at ho
        exact pplays2 (M := M) (N := A.length + 1) (hj1.up (by omega)) ⟨by omega, by omega⟩ g1.rd hr1 hord (fun h b hb => by have := hw h b hb; omega) hsml hf (by omega)
    · rw [decide_eq_false hf, ifNF]
      exact off
  rw [bLI y0, bLI y1, bX k, bB]
  by_cases hR : Rt p s
  · rw [decide_eq_true hR, ifT, bLI y0]
    by_cases hp : p > 10
    · rw [ifD hp]; exact off
    rw [ifDn hp, bLI y1]
    by_cases hs : s > 4
    · rw [ifD hs]; exact off
    rw [ifDn hs]
    exact rest (fun _ => by omega)
  · rw [decide_eq_false hR, ifF]
    exact rest (fun h => absurd h hR)

theorem pplays_main (A : AMem) (vs : List Value) (h : HoldsA A [(true, [.int .i64, .int .i64]), (false, [.int .i64]), (false, [.slice [.int .i64, .slice [.int .i64, .int .u64, .int .u64, .int .u64]]]), (false, [.slice [.int .u8]])] vs) :
    ∃ A', (lim env).call 4 vs A = some (.bool true, A') := by
  obtain ⟨_, _, rfl, ha, _, _, rfl, hb, _, _, rfl, hc, _, _, rfl, hd, rfl⟩ := h
  obtain ⟨p, s, rfl⟩ := holds_lay ha
  obtain ⟨t, rfl, _⟩ := holds_int hb
  obtain ⟨q, js, rfl, h1, h5, h6⟩ := holds_jobs hc
  obtain ⟨w, ord, rfl, h2, h3, h4⟩ := holds_bytes hd
  have := pplays A p s t q w js ord h1 h2 h3 h4 h5 h6
  rw [LL_lim] at this
  exact this

theorem peekPlays_lifted (os : Os) (started : os.Started) (H : Type) (enc : TypeId × Value → H) :
    ReturnsInHanded {} Try.checked os 4 .any (Rows.peekPlaysSpec.pre6 enc Try.prog Try.f4 Rows.peekPlaysRow.domain false) (Rows.peekPlaysSpec.post enc Try.prog Try.f4 false true false false) :=
  lifted_of_args (C := Try.checked) (E := env) (by kernel_rfl) started (by kernel_rfl) Try.func4
    (ChangeSpec.witness6 (enc := enc) (C := Try.checked) false ⟨#[], #[.agg #[.int .i64 0, .int .i64 0], .int .i64 0, .slice none 0 0, .slice none 0 0], []⟩ 8 (by kernel_rfl) (by kernel_rfl) (by kernel_rfl) (by kernel_rfl))
    (by kernel_rfl) (by kernel_rfl) (by kernel_rfl : Try.f4.resultTypes = #[4]) (by kernel_rfl) rfl
    (fun ds hd => by
      match ds, hd with
      | [d1, d2, d3, d4], _ => rfl) envOk (by kernel_rfl) (by kernel_rfl) pplays_main

theorem peekPlays_holds : Rows.PeekPlaysSaid :=
  OpenClaim.holds_of_wide 4 Try.f4 rfl rfl rfl rfl rfl rfl rfl ⟨rfl, rfl, rfl, rfl, rfl⟩ rfl rfl rfl rfl rfl (by kernel_rfl) Try.func4 (by kernel_rfl)
    (of_decide_eq_true (by kernel_rfl)) (by unfold Func.isWrapper; rw [if_neg (of_decide_eq_false (by kernel_rfl))]; exact ⟨rfl, rfl⟩)
    (fun os started H enc _ => peekPlays_lifted os started H enc)


end Go.Proofs.Ytpnknolehckfhaa
