/- The document's flushes: Adds, New. -/
import Derived.Test.YtpnknolehckfhaaFlushI
set_option linter.unusedVariables false
set_option linter.unusedSimpArgs false
namespace Go.Proofs.Ytpnknolehckfhaa
open Go Go.Ax

theorem at2_spec (p s st : Int) (h : 0 ≤ st ∧ st ≤ 1000000) : ∃ M, LL.call 59 [lay p s, .agg #[.int .i64 2, .int .i64 st, .int .i64 0]] [] = some (.int .i64 (1 + st), M) := by
  rw [L_call59, E59]
  have e : IntKind.wrap .i64 (1 + st) = 1 + st := w64 (by omega)
  rw [if_pos (by decide), e]
  exact ⟨_, rfl⟩

theorem at3_spec (p s st : Int) (h : 0 ≤ st ∧ st ≤ 1000000) (hs : 0 ≤ s ∧ s ≤ 1000000) : ∃ M, LL.call 59 [lay p s, .agg #[.int .i64 3, .int .i64 st, .int .i64 0]] [] = some (.int .i64 (1 + s + st), M) := by
  rw [L_call59, E59]
  have e : IntKind.wrap .i64 (1 + s) = 1 + s := w64 (by omega)
  have e2 : IntKind.wrap .i64 (1 + s + st) = 1 + s + st := w64 (by omega)
  rw [if_neg (by decide), if_pos (by decide), e, e2]
  exact ⟨_, rfl⟩

theorem at4_spec (p s px c : Int) (h : 0 ≤ px ∧ px ≤ 1000000) (hs : 0 ≤ s ∧ s ≤ 1000000) (hc : 0 ≤ c ∧ c < 3) : ∃ M, LL.call 59 [lay p s, .agg #[.int .i64 4, .int .i64 px, .int .i64 c]] [] = some (.int .i64 (1 + 2 * s + (3 * px + c)), M) := by
  rw [L_call59, E59]
  have e1 : IntKind.wrap .i64 (2 * s) = 2 * s := w64 (by omega)
  have e2 : IntKind.wrap .i64 (1 + 2 * s) = 1 + 2 * s := w64 (by omega)
  have e3 : IntKind.wrap .i64 (3 * px) = 3 * px := w64 (by omega)
  have e4 : IntKind.wrap .i64 (1 + 2 * s + 3 * px) = 1 + 2 * s + 3 * px := w64 (by omega)
  have e5 : IntKind.wrap .i64 (1 + 2 * s + 3 * px + c) = 1 + 2 * s + 3 * px + c := w64 (by omega)
  rw [if_neg (by decide), if_neg (by decide), e1, e2, e3, e4, e5]
  exact ⟨_, by congr 3; omega⟩

theorem ent_w {M : AMem} {a : Nat} {l : List En} (h : Rd M a (l.flatMap encE)) {i : Nat} {x : En} (hi : l[i]? = some x) {c : Nat} {w : Int} (hw : ([x.w0, x.w1, x.w2] : List Int)[c]? = some w) : M.ld a (i * 4 + 1 + c) = some (.int .u64 w) := by
  obtain ⟨_, l1, l2, l3⟩ := ent_ld h hi
  match c, hw with
  | 0, hw => cases hw; exact l1
  | 1, hw => cases hw; exact l2
  | 2, hw => cases hw; exact l3

/-- Adds that are being gathered. -/
structure GaI (N0 x3 : Nat) (p s : Int) (z : Nat) (es : List En) (M0 M : AMem) (o : Option Addr) (oc : Nat) (A : List (Int × Int)) : Prop where
  sl : Slc M 2 o A.length oc (A.flatMap encA)
  ao : ∀ b ∈ blk o, N0 ≤ b ∧ b ≠ x3 ∧ (es ≠ [] → b ≠ z)
  h3 : Rd M x3 [.int .i64 p, .int .i64 s]
  hz : es ≠ [] → Rd M z (es.flatMap encE)
  same : Same M0 M []

theorem GaI.app {N0 x3 : Nat} {p s : Int} {z : Nat} {es : List En} {M0 M : AMem} {o : Option Addr} {oc : Nat} {A : List (Int × Int)} (h : GaI N0 x3 p s z es M0 M o oc A) (hA : A.length ≤ 100000) (hN : M0.length ≤ N0) (hNM : N0 ≤ M.length) (x : Int × Int) :
    ∃ M' o', rowOf (M ++ [AObj.cells [.int .i64 x.1, .int .u64 x.2] ⟨false, 0⟩]) 2 (.slice (some ⟨M.length, 0, none⟩) 1 2) = some [.int .i64 x.1, .int .u64 x.2] ∧
      (∀ K, appendK 2 16 o A.length oc 1 [.int .i64 x.1, .int .u64 x.2] (M ++ [AObj.cells [.int .i64 x.1, .int .u64 x.2] ⟨false, 0⟩]) K = K o' (A ++ [x]).length 2 M') ∧ GaI N0 x3 p s z es M0 M' o' 2 (A ++ [x]) ∧ N0 ≤ M'.length := by
  obtain ⟨M', g1, g2, g3⟩ := grn_row (bytes := 16) (new := encA x) (m := 1) (v := 0) h.sl rfl (by omega) (by omega)
  have hrow := rowOf_new M 2 1 (encA x) 0 2 rfl
  unfold encA at g1 hrow
  have h3l := h.h3.lt
  have hle := g3.same.le
  refine ⟨M', some ⟨M.length + 1, 0, none⟩, hrow, fun K => ?_, ⟨?_, fun b hb => ?_, h.h3.same g3.same (fun hb => (h.ao _ hb).2.1 rfl), fun hne => (h.hz hne).same g3.same (fun hb => (h.ao _ hb).2.2 hne rfl), ?_⟩, by omega⟩
  · rw [List.length_append, List.length_singleton]; exact g1 K
  · rw [List.length_append, List.length_singleton, List.flatMap_append]
    simpa [encA] using g2
  · simp only [blk_some, List.mem_singleton] at hb
    subst hb
    exact ⟨by omega, by omega, fun hne => by have := (h.hz hne).lt; omega⟩
  · exact (h.same.trans g3.same).mono' fun b hb hlt => by
      rcases List.mem_append.1 hb with hb | hb
      · exact hb
      · have := (h.ao b hb).1; omega

theorem ga_step {N0 x3 : Nat} {p s st : Int} {z : Nat} {es : List En} {qc : Nat} {M0 M : AMem} {o : Option Addr} {oc : Nat} {A : List (Int × Int)} (hr : Rt p s) (h : GaI N0 x3 p s z es M0 M o oc A) (hA : A.length ≤ 100000) (hN : M0.length ≤ N0) (hNM : N0 ≤ M.length)
    {i : Nat} {e : En} (he : es[i]? = some e) (hpx : 0 ≤ e.px ∧ e.px < p) (c : Nat) (hc : c < 3) (w : Int) (hw : ([e.w0, e.w1, e.w2] : List Int)[c]? = some w) :
    ∃ M' o' oc', P48_20 LL st (some ⟨z, 0, none⟩) es.length qc x3 o A.length oc (i : Int) (c : Int) M = P48_20 LL st (some ⟨z, 0, none⟩) es.length qc x3 o' (A ++ chAdd s e.px c w).length oc' (i : Int) ((c + 1 : Nat) : Int) M' ∧ GaI N0 x3 p s z es M0 M' o' oc' (A ++ chAdd s e.px c w) ∧ N0 ≤ M'.length := by
  have hlt := (List.getElem?_eq_some_iff.1 he).1
  have hne : es ≠ [] := by intro h0; rw [h0] at hlt; simp at hlt
  have hz := h.hz hne
  obtain ⟨r1, r2, r3, r4⟩ := hr
  rw [P48_20_eq LL L_loop, ifD (by omega)]
  have a1 : (0 : Int) ≤ (i : Int) ∧ (i : Int) < Int.ofNat es.length := by rw [ofN]; omega
  have a2 : (0 : Int) ≤ (c : Int) ∧ (c : Int) < 3 := by omega
  have wc : IntKind.wrap .i64 ((c : Int) + 1) = ((c + 1 : Nat) : Int) := by rw [w64 (by omega)]; rfl
  have lw := ent_w hz he hw
  obtain ⟨l0, _⟩ := ent_ld hz he
  simp only [↓if_pos a1, ↓if_pos a2, Nat.zero_add, Nat.mul_one, Int.toNat_natCast, ↓bLI lw]
  by_cases h0 : w = 0
  · refine ⟨M, o, oc, ?_, by simpa [chAdd, h0] using h, hNM⟩
    have e1 : A ++ chAdd s e.px c w = A := by simp [chAdd, h0]
    rw [e1]
    subst h0
    rw [if_neg (by simp), P48_34_eq, wc]
  · have y0 : M.ld x3 0 = some (.int .i64 p) := h.h3.ld 0
    have y1 : M.ld x3 1 = some (.int .i64 s) := h.h3.ld 1
    obtain ⟨_, k⟩ := at4_spec p s e.px c (by omega) (by omega) (by omega)
    obtain ⟨M', o', g1, g2, g3, g4⟩ := h.app hA hN hNM (1 + 2 * s + (3 * e.px + c), w)
    have e1 : A ++ chAdd s e.px c w = A ++ [(1 + 2 * s + (3 * e.px + c), w)] := by simp [chAdd, h0]
    rw [e1]
    refine ⟨M', o', 2, ?_, g3, g4⟩
    simp only at g1 g2
    have hne' : (w != 0) = true := by simpa using h0
    rw [hne', ifT, bLI y0, bLI y1]
    simp only [↓if_pos a1, ↓bLI l0]
    rw [bX k, bI]
    simp only [↓if_pos a1, ↓if_pos a2, ↓bLI lw, ↓bX g1, g2]
    rw [P48_34_eq, wc]

theorem ga_loop {N0 x3 : Nat} {p s st : Int} {z : Nat} {es : List En} {q : Option Addr} {qc : Nat} {M0 : AMem} (hr : Rt p s) (hN : M0.length ≤ N0) (he : ∀ e ∈ es, 0 ≤ e.px ∧ e.px < p) (hes : es.length ≤ 4096) (hq : es ≠ [] → q = some ⟨z, 0, none⟩) :
    ∀ (d i : Nat) (M : AMem) (o : Option Addr) (oc : Nat) (A : List (Int × Int)), i + d = es.length → GaI N0 x3 p s z es M0 M o oc A → A.length + 3 * d ≤ 90000 → N0 ≤ M.length →
    ∃ M' o' oc', P48_8 LL st q es.length qc x3 o A.length oc (i : Int) M = P48_36 LL st x3 o' (A ++ (es.drop i).flatMap (enAdds s)).length oc' M' ∧ GaI N0 x3 p s z es M0 M' o' oc' (A ++ (es.drop i).flatMap (enAdds s)) ∧ N0 ≤ M'.length := by
  intro d
  induction d with
  | zero =>
    intro i M o oc A hi h hA hNM
    refine ⟨M, o, oc, ?_, ?_, hNM⟩
    · rw [P48_8_eq LL L_loop, ifDn (by rw [ofN]; omega), List.drop_eq_nil_of_le (by omega)]
      simp
    · rw [List.drop_eq_nil_of_le (by omega)]; simpa using h
  | succ d ih =>
    intro i M o oc A hi h hA hNM
    have hil : i < es.length := by omega
    obtain ⟨e, hei⟩ : ∃ e, es[i]? = some e := ⟨_, List.getElem?_eq_getElem hil⟩
    obtain rfl := hq (by intro h0; rw [h0] at hil; simp at hil)
    have hpx := he e (List.mem_of_getElem? hei)
    have c0 := chAdd_len s e.px 0 e.w0
    have c1 := chAdd_len s e.px 1 e.w1
    have c2 := chAdd_len s e.px 2 e.w2
    obtain ⟨M1, o1, oc1, a1, b1, d1⟩ := ga_step (st := st) (qc := qc) hr h (by omega) hN hNM hei hpx 0 (by omega) e.w0 rfl
    obtain ⟨M2, o2, oc2, a2, b2, d2⟩ := ga_step (st := st) (qc := qc) hr b1 (by rw [List.length_append]; omega) hN d1 hei hpx 1 (by omega) e.w1 rfl
    obtain ⟨M3, o3, oc3, a3, b3, d3⟩ := ga_step (st := st) (qc := qc) hr b2 (by rw [List.length_append, List.length_append]; omega) hN d2 hei hpx 2 (by omega) e.w2 rfl
    have hen : A ++ chAdd s e.px 0 e.w0 ++ chAdd s e.px 1 e.w1 ++ chAdd s e.px 2 e.w2 = A ++ enAdds s e := by simp [enAdds]
    rw [hen] at a3 b3
    have el := enAdds_len s e
    have hd : es.drop i = e :: es.drop (i + 1) := by rw [List.drop_eq_getElem_cons hil]; congr 1; exact (List.getElem?_eq_some_iff.1 hei).2
    obtain ⟨M', o', oc', k1, k2, k3⟩ := ih (i + 1) M3 o3 oc3 _ (by omega) b3 (by rw [List.length_append]; omega) d3
    have hw : IntKind.wrap .i64 ((i : Int) + 1) = ((i + 1 : Nat) : Int) := by rw [w64 (by omega)]; rfl
    rw [hd, List.flatMap_cons, ← List.append_assoc]
    refine ⟨M', o', oc', ?_, k2, k3⟩
    rw [P48_8_eq LL L_loop, ifD (by rw [ofN]; omega), show (0 : Int) = ((0 : Nat) : Int) from rfl, a1, a2, a3, P48_20_eq LL L_loop, if_neg (by simp), P48_35_eq, hw, k1]

theorem radds33 {p s st : Int} {es : List En} {q : Option Addr} {qc : Nat} {M : AMem} (hok : FlOk p s st es) (hq : RdL M encE q es.length es) :
    ∃ M' o oc, LL.call 48 [lay p s, .int .i64 st, .slice q es.length qc] M = some (.slice o (flAdds s st es).length oc, M') ∧ RdL M' encA o (flAdds s st es).length (flAdds s st es) ∧ Same M M' [] ∧ ∀ b ∈ blk o, M.length ≤ b := by
  obtain ⟨⟨hr, hst⟩, hes, he⟩ := hok
  rw [L_call48, E48]
  have hr' := hr
  obtain ⟨r1, r2, r3, r4⟩ := hr'
  have g1 := cells_new M [.int .i64 p, .int .i64 s] 0
  have s1 := same_app M [AObj.cells [.int .i64 p, .int .i64 s] ⟨false, 0⟩]
  have l1 : (M ++ [AObj.cells [.int .i64 p, .int .i64 s] ⟨false, 0⟩]).length = M.length + 1 := by simp
  generalize M ++ [AObj.cells [.int .i64 p, .int .i64 s] ⟨false, 0⟩] = M1 at g1 s1 l1 ⊢
  have y0 : M1.ld M.length 0 = some (.int .i64 p) := g1.ld 0
  have y1 : M1.ld M.length 1 = some (.int .i64 s) := g1.ld 1
  obtain ⟨_, k⟩ := at2_spec p s st (by omega)
  rw [bLI y0, bLI y1, bX k, bI]
  have g2 := cells_new M1 (encA (1 + st, 1)) 0
  have s2 := same_app M1 [AObj.cells (encA (1 + st, 1)) ⟨false, 0⟩]
  have l2 : (M1 ++ [AObj.cells (encA (1 + st, 1)) ⟨false, 0⟩]).length = M1.length + 1 := by simp
  obtain ⟨z, hz⟩ : ∃ z, es ≠ [] → (q = some ⟨z, 0, none⟩ ∧ Rd M z (es.flatMap encE)) := by
    by_cases h0 : 0 < es.length
    · obtain ⟨z, h1, h2⟩ := hq.2 h0
      exact ⟨z, fun _ => ⟨h1, h2⟩⟩
    · exact ⟨0, fun h => absurd (List.length_eq_zero_iff.1 (by omega)) h⟩
  have hI : GaI M1.length M.length p s z es M (M1 ++ [AObj.cells (encA (1 + st, 1)) ⟨false, 0⟩]) (some ⟨M1.length, 0, none⟩) 2 [(1 + st, 1)] := by
    refine ⟨Slc.of g2 rfl, fun b hb => ?_, (g1.same s2 (by simp)).rd, fun hne => ((hz hne).2.same s1 (by simp)).same s2 (by simp), (s1.trans s2).mono (by simp)⟩
    simp only [blk_some, List.mem_singleton] at hb
    subst hb
    exact ⟨Nat.le_refl _, by omega, fun hne => by have := (hz hne).2.lt; omega⟩
  unfold encA at hI l2
  generalize M1 ++ [AObj.cells [.int .i64 (1 + st), .int .u64 1] ⟨false, 0⟩] = M2 at hI l2 ⊢
  have el := esAdds_len s es
  obtain ⟨M3, o3, oc3, a1, a2, a3⟩ := ga_loop (st := st) (qc := qc) (q := q) hr (by omega) (fun e h => ⟨(he e h).1, (he e h).2.1⟩) hes (fun hne => (hz hne).1) es.length 0 M2 _ 2 _ (by omega) hI (by rw [List.length_singleton]; omega) (by omega)
  rw [List.drop_zero] at a1 a2
  obtain ⟨M4, o4, b1, b2, b3, b4⟩ := a2.app (by rw [List.length_append, List.length_singleton]; omega) (by omega) a3 (1 + s + st, 1)
  have e1 : [(1 + st, 1)] ++ es.flatMap (enAdds s) ++ [(1 + s + st, 1)] = flAdds s st es := by simp [flAdds]
  rw [e1] at b2 b3
  simp only at b1 b2
  have z0 : M3.ld M.length 0 = some (.int .i64 p) := a2.h3.ld 0
  have z1 : M3.ld M.length 1 = some (.int .i64 s) := a2.h3.ld 1
  obtain ⟨_, k3⟩ := at3_spec p s st (by omega) (by omega)
  refine ⟨M4, o4, 2, ?_, ⟨rfl, fun h0 => ?_⟩, b3.same, fun b hb => by have := (b3.ao b hb).1; omega⟩
  · rw [show P48_8 LL st q es.length qc M.length (some ⟨M1.length, 0, none⟩) 1 2 0 M2 = _ from a1, P48_36_eq, bLI z0, bLI z1]
    rw [bX k3, bI, bX b1, b2]
  · obtain ⟨a, h1, h2⟩ := b3.sl.pos h0
    exact ⟨a, h1, h2.rd⟩

theorem bA6 {β : Type} (a b c d e g : Value) (f : List Value → Option β) : Option.bind (aggOf? 6 (.agg #[a, b, c, d, e, g])) f = f [a, b, c, d, e, g] := rfl
theorem bS1 {β : Type} (x : Value) (p : Option Addr) (n c : Nat) (l : List Value) (f : Option Addr × Nat × Nat → Option β) : Option.bind (sliceOf? ((x :: .slice p n c :: l)[1]?)) f = f (p, n, c) := bS p n c f
theorem bB3 {β : Type} (x y z : Value) (b : Bool) (l : List Value) (f : Bool → Option β) : Option.bind (boolOf? ((x :: y :: z :: .bool b :: l)[3]?)) f = f b := bB b f
theorem bI4 {β : Type} (k : IntKind) (x y z w : Value) (a : Int) (l : List Value) (f : Int → Option β) : Option.bind (intOf? k ((x :: y :: z :: w :: .int k a :: l)[4]?)) f = f a := bI k a f
theorem bI5 {β : Type} (k : IntKind) (x y z w v : Value) (a : Int) (l : List Value) (f : Int → Option β) : Option.bind (intOf? k ((x :: y :: z :: w :: v :: .int k a :: l)[5]?)) f = f a := bI k a f

def zFl : List Value := [.int .i64 0, .slice none 0 0, .int .i64 0, .bool false, .int .u64 0, .int .i64 0]
def zTup : Value := .tuple #[.agg #[.int .i64 0, .slice none 0 0, .int .i64 0, .bool false, .int .u64 0, .int .i64 0], .bool false]

theorem zw {M : AMem} {x6 : Nat} {cs : List Value} (h : Cells M x6 cs) (hl : cs.length = 6) : ∃ M', AMem.wr M x6 0 [.int .i64 0, .slice none 0 0, .int .i64 0, .bool false, .int .u64 0, .int .i64 0] = some M' ∧ M'.ld x6 0 = some (.int .i64 0) ∧ M'.ld x6 1 = some (.slice none 0 0) ∧ M'.ld x6 2 = some (.int .i64 0) ∧ M'.ld x6 3 = some (.bool false) ∧ M'.ld x6 4 = some (.int .u64 0) ∧ M'.ld x6 5 = some (.int .i64 0) ∧ Same M M' [x6] := by
  obtain ⟨M', w1, w2, w3, w4⟩ := h.wr (o := 0) (vs := zFl) (by simp [zFl, hl])
  have e : wrL cs 0 zFl = zFl := by
    match cs, hl with
    | [a, b, c, d, e, f], _ => rfl
  rw [e] at w2
  exact ⟨M', w1, w2.ld 0, w2.ld 1, w2.ld 2, w2.ld 3, w2.ld 4, w2.ld 5, w3⟩

theorem rn_loop {x3 x6 : Nat} {p s st : Int} {es : List En} {q : Option Addr} {qc : Nat} {M : AMem} {cs : List Value} (hr : Rt p s) (hst : 0 ≤ st) (hes : es.length ≤ 4096) (h3 : Rd M x3 [.int .i64 p, .int .i64 s]) (h6 : Cells M x6 cs) (hcs : cs.length = 6) (hq : RdL M encE q es.length es) : ∀ (d j : Nat), j + d = es.length →
    (if ∀ e ∈ es.drop j, 0 ≤ e.px ∧ e.px < p ∧ Int.tmod e.px s = st then P25_14 LL st q es.length qc x3 x6 (j : Int) M = P25_31 LL st q es.length qc x3 x6 M else ∃ M', P25_14 LL st q es.length qc x3 x6 (j : Int) M = some (zTup, M') ∧ Same M M' [x6]) := by
  intro d
  induction d with
  | zero =>
    intro j hj
    have hn : ∀ e ∈ es.drop j, 0 ≤ e.px ∧ e.px < p ∧ Int.tmod e.px s = st := by rw [List.drop_eq_nil_of_le (by omega)]; simp
    rw [if_pos hn, P25_14_eq LL L_loop, ifDn (by rw [ofN]; omega)]
  | succ d ih =>
    intro j hj
    have hjl : j < es.length := by omega
    obtain ⟨z, rfl, hz⟩ := hq.2 (by omega)
    obtain ⟨e, hej⟩ : ∃ e, es[j]? = some e := ⟨_, List.getElem?_eq_getElem hjl⟩
    obtain ⟨l0, _⟩ := ent_ld hz hej
    have hd : es.drop j = e :: es.drop (j + 1) := by rw [List.drop_eq_getElem_cons hjl]; congr 1; exact (List.getElem?_eq_some_iff.1 hej).2
    have hw : IntKind.wrap .i64 ((j : Int) + 1) = ((j + 1 : Nat) : Int) := by rw [w64 (by omega)]; rfl
    have hg : (0 : Int) ≤ (j : Int) ∧ (j : Int) < Int.ofNat es.length := by rw [ofN]; omega
    have y0 : M.ld x3 0 = some (.int .i64 p) := h3.ld 0
    have y1 : M.ld x3 1 = some (.int .i64 s) := h3.ld 1
    obtain ⟨M', w1, d0, d1, d2, d3, d4, d5, sm⟩ := zw h6 hcs
    obtain ⟨r1, r2, r3, r4⟩ := hr
    have hs0 : ¬ s = 0 := by omega
    by_cases c1 : e.px < 0
    · rw [if_neg (by rw [hd]; simp only [List.forall_mem_cons]; omega)]
      refine ⟨M', ?_, sm⟩
      rw [P25_14_eq LL L_loop, ifD hg.2]
      simp only [↓if_pos hg, Nat.zero_add, Int.toNat_natCast, ↓bLI l0]
      rw [ifD c1, bX w1, bLI d0, bLS d1, bLI d2, bLB d3, bLI d4, bLI d5]
      rfl
    by_cases c2 : e.px ≥ p
    · rw [if_neg (by rw [hd]; simp only [List.forall_mem_cons]; omega)]
      refine ⟨M', ?_, sm⟩
      rw [P25_14_eq LL L_loop, ifD hg.2]
      simp only [↓if_pos hg, Nat.zero_add, Int.toNat_natCast, ↓bLI l0, ↓bLI y0]
      rw [ifDn c1, ifD c2, bX w1, bLI d0, bLS d1, bLI d2, bLB d3, bLI d4, bLI d5]
      rfl
    by_cases c3 : Int.tmod e.px s = st
    · have := ih (j + 1) (by omega)
      have hiff : (∀ e ∈ es.drop j, 0 ≤ e.px ∧ e.px < p ∧ Int.tmod e.px s = st) ↔ (∀ e ∈ es.drop (j + 1), 0 ≤ e.px ∧ e.px < p ∧ Int.tmod e.px s = st) := by
        rw [hd]; simp only [List.forall_mem_cons, c3, and_true]
        exact ⟨fun h => h.2, fun h => ⟨by omega, h⟩⟩
      have hne : (Int.tmod e.px s != st) = false := by rw [c3]; exact bne_self_eq_false _
      have hstep : P25_14 LL st (some ⟨z, 0, none⟩) es.length qc x3 x6 (j : Int) M = P25_14 LL st (some ⟨z, 0, none⟩) es.length qc x3 x6 ((j + 1 : Nat) : Int) M := by
        rw [P25_14_eq LL L_loop, ifD hg.2]
        simp only [↓if_pos hg, Nat.zero_add, Int.toNat_natCast, ↓bLI l0, ↓bLI y0, ↓bLI y1]
        rw [ifDn c1, ifDn c2, if_neg hs0, hne, ifF, P25_30_eq, hw]
      rw [hstep]
      by_cases hall : ∀ e ∈ es.drop (j + 1), 0 ≤ e.px ∧ e.px < p ∧ Int.tmod e.px s = st
      · rw [if_pos hall] at this
        rw [if_pos (hiff.2 hall)]
        exact this
      · rw [if_neg hall] at this
        rw [if_neg (fun h => hall (hiff.1 h))]
        exact this
    · rw [if_neg (by rw [hd]; simp only [List.forall_mem_cons]; exact fun h => c3 h.1.2.2)]
      refine ⟨M', ?_, sm⟩
      have hne : (Int.tmod e.px s != st) = true := by simpa using c3
      rw [P25_14_eq LL L_loop, ifD hg.2]
      simp only [↓if_pos hg, Nat.zero_add, Int.toNat_natCast, ↓bLI l0, ↓bLI y0, ↓bLI y1]
      rw [ifDn c1, ifDn c2, if_neg hs0, hne, ifT, bX w1, bLI d0, bLS d1, bLI d2, bLB d3, bLI d4, bLI d5]
      rfl

theorem rnew33 {p s st : Int} {es : List En} {q : Option Addr} {qc : Nat} {M : AMem} (hq : RdL M encE q es.length es) :
    (FlOk p s st es → ∃ M' o oc, LL.call 25 [lay p s, .int .i64 st, .slice q es.length qc] M = some (.tuple #[.agg #[.int .i64 (1 + 2 * s + 3 * p), .slice o (flAdds s st es).length oc, .int .i64 ((flAdds s st es).length : Nat), .bool false, .int .u64 0, .int .i64 0], .bool true], M') ∧
      RdL M' encA o (flAdds s st es).length (flAdds s st es) ∧ Same M M' [] ∧ ∀ b ∈ blk o, M.length ≤ b) ∧
    (¬ FlOk p s st es → ∃ M', LL.call 25 [lay p s, .int .i64 st, .slice q es.length qc] M = some (zTup, M') ∧ Same M M' []) := by
  rw [L_call25, E25]
  have g1 := cells_new M [.int .i64 p, .int .i64 s] 0
  have s1 := same_app M [AObj.cells [.int .i64 p, .int .i64 s] ⟨false, 0⟩]
  have l1 : (M ++ [AObj.cells [.int .i64 p, .int .i64 s] ⟨false, 0⟩]).length = M.length + 1 := by simp
  generalize M ++ [AObj.cells [.int .i64 p, .int .i64 s] ⟨false, 0⟩] = M1 at g1 s1 l1 ⊢
  have g2 := cells_new M1 [.int .i64 0, .slice none 0 0, .int .i64 0, .bool false, .int .u64 0, .int .i64 0] 0
  have s2 := same_app M1 [AObj.cells [.int .i64 0, .slice none 0 0, .int .i64 0, .bool false, .int .u64 0, .int .i64 0] ⟨false, 0⟩]
  have l2 : (M1 ++ [AObj.cells [.int .i64 0, .slice none 0 0, .int .i64 0, .bool false, .int .u64 0, .int .i64 0] ⟨false, 0⟩]).length = M1.length + 1 := by simp
  have g1' := g1.same s2 (by simp)
  generalize M1 ++ [AObj.cells [.int .i64 0, .slice none 0 0, .int .i64 0, .bool false, .int .u64 0, .int .i64 0] ⟨false, 0⟩] = M2 at g2 s2 l2 g1' ⊢
  have t2 : Same M M2 [] := (s1.trans s2).mono (by simp)
  have y0 : M2.ld M.length 0 = some (.int .i64 p) := g1'.ld 0
  have y1 : M2.ld M.length 1 = some (.int .i64 s) := g1'.ld 1
  obtain ⟨_, k⟩ := right12_spec p s
  obtain ⟨M', w1, d0, d1, d2, d3, d4, d5, sm⟩ := zw g2 rfl
  have tm : Same M M' [] := (t2.trans sm).mono' (fun b hb hl => by simp at hb; omega)
  rw [bLI y0, bLI y1, bX k, bB]
  have key : (¬ FlOk p s st es → ∃ M'', some (zTup, M') = some (zTup, M'') ∧ Same M M'' []) := fun _ => ⟨M', rfl, tm⟩
  by_cases hr : Rt p s
  · rw [decide_eq_true hr, ifNT]
    by_cases c1 : st < 0
    · rw [ifD c1, bX w1, bLI d0, bLS d1, bLI d2, bLB d3, bLI d4, bLI d5]
      exact ⟨fun h => absurd h.1.2.1 (by omega), key⟩
    rw [ifDn c1, bLI y1]
    by_cases c2 : st ≥ s
    · rw [ifD c2, bX w1, bLI d0, bLS d1, bLI d2, bLB d3, bLI d4, bLI d5]
      exact ⟨fun h => absurd h.1.2.2 (by omega), key⟩
    rw [ifDn c2]
    by_cases c3 : es.length ≤ 4096
    · rw [ifDn (by rw [ofN]; omega)]
      have hl := rn_loop (qc := qc) hr (by omega) c3 g1'.rd g2 rfl (hq.same t2 (by simp)) (st := st) es.length 0 (by omega)
      rw [List.drop_zero] at hl
      by_cases c : ∀ e ∈ es, 0 ≤ e.px ∧ e.px < p ∧ Int.tmod e.px s = st
      · rw [if_pos c] at hl
        have hok : FlOk p s st es := ⟨⟨hr, by omega, by omega⟩, c3, c⟩
        have hl0 : P25_14 LL st q es.length qc M.length M1.length 0 M2 = _ := hl
        rw [hl0]
        refine ⟨fun _ => ?_, fun h => absurd hok h⟩
        obtain ⟨M3, o, oc, a1, a2, a3, a4⟩ := radds33 (qc := qc) hok (hq.same t2 (by simp))
        have g13 := g1'.same a3 (by simp)
        have g23 := g2.same a3 (by simp)
        have z0 : M3.ld M.length 0 = some (.int .i64 p) := g13.ld 0
        have z1 : M3.ld M.length 1 = some (.int .i64 s) := g13.ld 1
        obtain ⟨_, k2⟩ := rsize31_spec p s
        rw [if_pos hr] at k2
        obtain ⟨M4, v1, v2, v3, v4⟩ := g23.wr (o := 0) (vs := [.int .i64 (1 + 2 * s + 3 * p), .slice o (flAdds s st es).length oc, .int .i64 ((flAdds s st es).length : Nat), .bool false, .int .u64 0, .int .i64 0]) (by simp)
        have v2' : Cells M4 M1.length [.int .i64 (1 + 2 * s + 3 * p), .slice o (flAdds s st es).length oc, .int .i64 ((flAdds s st es).length : Nat), .bool false, .int .u64 0, .int .i64 0] := by simpa [wrL] using v2
        refine ⟨M4, o, oc, ?_, a2.same v3 (fun b hb => by have := a4 b hb; simp; omega), ((t2.trans a3).trans v3).mono' (fun b hb hl => by simp at hb; omega), fun b hb => by have := a4 b hb; omega⟩
        have u0 : M4.ld M1.length 0 = some (.int .i64 (1 + 2 * s + 3 * p)) := v2'.ld 0
        have u1 : M4.ld M1.length 1 = some (.slice o (flAdds s st es).length oc) := v2'.ld 1
        have u2 : M4.ld M1.length 2 = some (.int .i64 ((flAdds s st es).length : Nat)) := v2'.ld 2
        have u3 : M4.ld M1.length 3 = some (.bool false) := v2'.ld 3
        have u4 : M4.ld M1.length 4 = some (.int .u64 0) := v2'.ld 4
        have u5 : M4.ld M1.length 5 = some (.int .i64 0) := v2'.ld 5
        rw [P25_31_eq, bLI y0, bLI y1, bX a1, bS, bLI z0, bLI z1, bX k2, bI]
        simp only [ofN]
        rw [bX v1, bLI u0, bLS u1, bLI u2, bLB u3, bLI u4, bLI u5]
      · rw [if_neg c] at hl
        obtain ⟨M3, e1, e2⟩ := hl
        have hl0 : P25_14 LL st q es.length qc M.length M1.length 0 M2 = _ := e1
        rw [hl0]
        exact ⟨fun h => absurd h.2.2 c, fun _ => ⟨M3, rfl, (t2.trans e2).mono' (fun b hb hl => by simp at hb; omega)⟩⟩
    · rw [ifD (by rw [ofN]; omega), bX w1, bLI d0, bLS d1, bLI d2, bLB d3, bLI d4, bLI d5]
      exact ⟨fun h => absurd h.2.1 c3, key⟩
  · rw [decide_eq_false hr, ifNF, bX w1, bLI d0, bLS d1, bLI d2, bLB d3, bLI d4, bLI d5]
    exact ⟨fun h => absurd h.1.1 hr, key⟩

end Go.Proofs.Ytpnknolehckfhaa
