/- What flush.adds goes over; flush.New. -/
import Derived.Test.YtpnknolehckfhaaFlushN
set_option linter.unusedVariables false
set_option linter.unusedSimpArgs false
namespace Go.Proofs.Ytpnknolehckfhaa
open Go Go.Ax

theorem ent_ld {M : AMem} {a : Nat} {l : List En} (h : Rd M a (l.flatMap encE)) {i : Nat} {x : En} (hi : l[i]? = some x) :
    M.ld a (i * 4) = some (.int .i64 x.px) ∧ M.ld a (i * 4 + 1) = some (.int .u64 x.w0) ∧ M.ld a (i * 4 + 2) = some (.int .u64 x.w1) ∧ M.ld a (i * 4 + 3) = some (.int .u64 x.w2) := by
  have q := fun j hj => flat_get encE_length l i j x hi hj
  refine ⟨?_, ?_, ?_, ?_⟩
  · have := q 0 (by omega); rw [Nat.add_zero] at this; rw [h.ld, this]; rfl
  · rw [h.ld, q 1 (by omega)]; rfl
  · rw [h.ld, q 2 (by omega)]; rfl
  · rw [h.ld, q 3 (by omega)]; rfl

theorem ch_step {l f x9 x1 x2 x6 : Nat} {u : Value} {size p s : Int} {M0 : AMem} {ks : List (Nat × List Value)} {A : List (Int × Int)} {M : AMem} {e : En} {q : Option Addr} {qn qc : Nat} {x17 x18 : Int} (hr : Rt p s) (he : 0 ≤ e.px ∧ e.px < p)
    (h : NwI l f x9 u size M0 ks A M) (hA : A.length ≤ 100000) (h1 : (x1, [.int .i64 p, .int .i64 s]) ∈ ks) (h6 : (x6, encE e) ∈ ks) (c : Nat) (hc : c < 3) (w : Int) (hw : ([e.w0, e.w1, e.w2] : List Int)[c]? = some w) :
    ∃ M', P55_24 LL l x1 x2 x6 q qn qc x17 x18 e.w0 e.w1 e.w2 (c : Int) M = P55_24 LL l x1 x2 x6 q qn qc x17 x18 e.w0 e.w1 e.w2 ((c + 1 : Nat) : Int) M' ∧ NwI l f x9 u size M0 ks (A ++ chAdd s e.px c w) M' := by
  rw [P55_24_eq LL L_loop l x1]
  have a1 : decide ((c : Int) < 3) = true := decide_eq_true (by omega)
  have a2 : (0 : Int) ≤ (c : Int) ∧ (c : Int) < 3 := by omega
  have a3 : ([e.w0, e.w1, e.w2] : List Int)[((Int.toNat (c : Int)) * 1)]? = some w := by rw [Int.toNat_natCast, Nat.mul_one]; exact hw
  have wc : IntKind.wrap .i64 ((c : Int) + 1) = ((c + 1 : Nat) : Int) := by rw [w64 (by omega)]; rfl
  rw [a1, ifT, if_pos a2, bX a3]
  by_cases hz : w = 0
  · refine ⟨M, ?_, by simpa [chAdd, hz] using h⟩
    subst hz
    rw [if_neg (by simp), P55_40_eq, wc]
  · obtain ⟨k1, _⟩ := h.kp _ h1
    obtain ⟨k6, _⟩ := h.kp _ h6
    have y0 : M.ld x1 0 = some (.int .i64 p) := k1.ld 0
    have y1 : M.ld x1 1 = some (.int .i64 s) := k1.ld 1
    have y2 : M.ld x6 0 = some (.int .i64 e.px) := k6.ld 0
    obtain ⟨_, k⟩ := channel_spec p s e.px c
    rw [if_pos ⟨hr, he, by omega⟩] at k
    obtain ⟨M', r1, r2⟩ := nw_step h hA (1 + 2 * s + (3 * e.px + c), w)
    refine ⟨M', ?_, by simpa [chAdd, hz] using r2⟩
    rw [if_pos (by simpa using hz), bLI y0, bLI y1, bLI y2, bX k, bI, bX r1, bB, ifNF', P55_40_eq, wc]
where
  ifNF' {α : Type} {a b : α} : (if (!true) = true then a else b) = b := rfl

theorem ch_all {l f x9 x1 x2 x6 : Nat} {u : Value} {size p s : Int} {M0 : AMem} {ks : List (Nat × List Value)} {A : List (Int × Int)} {M : AMem} {e : En} {q : Option Addr} {qn qc : Nat} {x17 x18 : Int} (hr : Rt p s) (he : 0 ≤ e.px ∧ e.px < p)
    (h : NwI l f x9 u size M0 ks A M) (hA : A.length ≤ 90000) (h1 : (x1, [.int .i64 p, .int .i64 s]) ∈ ks) (h6 : (x6, encE e) ∈ ks) :
    ∃ M', P55_24 LL l x1 x2 x6 q qn qc x17 x18 e.w0 e.w1 e.w2 0 M = P55_41 LL l x1 x2 q qn qc x17 x18 M' ∧ NwI l f x9 u size M0 ks (A ++ enAdds s e) M' := by
  have c0 := chAdd_len s e.px 0 e.w0
  have c1 := chAdd_len s e.px 1 e.w1
  obtain ⟨M1, a1, b1⟩ := ch_step (x2 := x2) (q := q) (qn := qn) (qc := qc) (x17 := x17) (x18 := x18) hr he h (by omega) h1 h6 0 (by omega) e.w0 rfl
  obtain ⟨M2, a2, b2⟩ := ch_step (x2 := x2) (q := q) (qn := qn) (qc := qc) (x17 := x17) (x18 := x18) hr he b1 (by simp; omega) h1 h6 1 (by omega) e.w1 rfl
  obtain ⟨M3, a3, b3⟩ := ch_step (x2 := x2) (q := q) (qn := qn) (qc := qc) (x17 := x17) (x18 := x18) hr he b2 (by simp; omega) h1 h6 2 (by omega) e.w2 rfl
  refine ⟨M3, ?_, by simpa [enAdds] using b3⟩
  rw [show (0 : Int) = ((0 : Nat) : Int) from rfl, a1, a2, a3, P55_24_eq LL L_loop l x1]
  rw [if_neg (by simp)]

theorem ent_loop {l f x9 x1 x2 z : Nat} {u : Value} {size p s : Int} {M0 : AMem} {ks : List (Nat × List Value)} {es : List En} {q : Option Addr} {qc : Nat} (hr : Rt p s) (he : ∀ e ∈ es, 0 ≤ e.px ∧ e.px < p) (hes : es.length ≤ 4096)
    (h1 : (x1, [.int .i64 p, .int .i64 s]) ∈ ks) (hz : es = [] ∨ (q = some ⟨z, 0, none⟩ ∧ (z, es.flatMap encE) ∈ ks)) : ∀ (d j : Nat) (A : List (Int × Int)) (M : AMem), j + d = es.length → NwI l f x9 u size M0 ks A M → A.length + 3 * d ≤ 90000 →
    ∃ M', P55_10 LL l x1 x2 q es.length qc (es.length : Int) (j : Int) M = P55_42 LL l x1 x2 M' ∧ NwI l f x9 u size M0 ks (A ++ (es.drop j).flatMap (enAdds s)) M' := by
  intro d
  induction d with
  | zero =>
    intro j A M hj h hA
    rw [P55_10_eq LL L_loop l x1, ifDn (by omega)]
    exact ⟨M, rfl, by rw [List.drop_eq_nil_of_le (by omega)]; simpa using h⟩
  | succ d ih =>
    intro j A M hj h hA
    rw [P55_10_eq LL L_loop l x1, ifD (by omega)]
    obtain ⟨rfl, hzk⟩ := hz.resolve_left (by intro h0; rw [h0] at hj; simp at hj)
    have hjl : j < es.length := by omega
    obtain ⟨e, hej⟩ : ∃ e, es[j]? = some e := ⟨_, List.getElem?_eq_getElem hjl⟩
    have hee := he e (List.mem_of_getElem? hej)
    have kz : Rd M z (es.flatMap encE) := (h.kp _ hzk).1
    obtain ⟨l0, l1, l2, l3⟩ := ent_ld kz hej
    have s1 := same_app M [AObj.cells [.int .i64 0, .int .u64 0, .int .u64 0, .int .u64 0] ⟨false, 0⟩]
    have g1 := cells_new M [.int .i64 0, .int .u64 0, .int .u64 0, .int .u64 0] 0
    obtain ⟨M1, w1, w2, w3, w4⟩ := g1.wr (o := 0) (vs := encE e) (by simp [encE])
    unfold encE at w1 w2
    have w2' : Cells M1 M.length (encE e) := by simpa [wrL, encE] using w2
    have t1 : Same M M1 [] := (s1.trans w3).mono' (by simp)
    have hi := h.add t1 w2'.rd (by omega)
    have u0 : M1.ld M.length 1 = some (.int .u64 e.w0) := w2'.ld 1
    have u1 : M1.ld M.length 2 = some (.int .u64 e.w1) := w2'.ld 2
    have u2 : M1.ld M.length 3 = some (.int .u64 e.w2) := w2'.ld 3
    obtain ⟨M2, r1, r2⟩ := ch_all (x2 := x2) (q := some ⟨z, 0, none⟩) (qn := es.length) (qc := qc) (x17 := (es.length : Int)) (x18 := (j : Int)) hr hee hi (by omega) (List.mem_cons_of_mem _ h1) List.mem_cons_self
    have r3 := r2.drop
    have el := enAdds_len s e
    obtain ⟨M', k1, k2⟩ := ih (j + 1) _ M2 (by omega) r3 (by simp; omega)
    have hw : IntKind.wrap .i64 ((j : Int) + 1) = ((j + 1 : Nat) : Int) := by rw [w64 (by omega)]; rfl
    have hg : (0 : Int) ≤ (j : Int) ∧ (j : Int) < Int.ofNat es.length := by rw [ofN]; omega
    have hd : es.drop j = e :: es.drop (j + 1) := by rw [List.drop_eq_getElem_cons hjl]; congr 1; exact (List.getElem?_eq_some_iff.1 hej).2
    refine ⟨M', ?_, by rw [hd, List.flatMap_cons, ← List.append_assoc]; exact k2⟩
    simp only [↓if_pos hg, Nat.zero_add, Int.toNat_natCast, ↓bLI l0, ↓bLI l1, ↓bLI l2, ↓bLI l3, ↓bX w1, ↓bLI u0, ↓bLI u1, ↓bLI u2]
    rw [r1, P55_41_eq, hw, k1]

theorem adds_spec {l f x9 x1 x2 x3 z : Nat} {u : Value} {size p s st : Int} {M0 : AMem} {ks : List (Nat × List Value)} {es : List En} {q : Option Addr} {qc : Nat} {M : AMem} (hr : Rt p s) (hst : 0 ≤ st ∧ st < s) (he : ∀ e ∈ es, 0 ≤ e.px ∧ e.px < p) (hes : es.length ≤ 4096)
    (h1 : (x1, [.int .i64 p, .int .i64 s]) ∈ ks) (h2 : (x2, [.int .i64 st]) ∈ ks) (h3 : (x3, [.slice q es.length qc]) ∈ ks) (hz : es = [] ∨ (q = some ⟨z, 0, none⟩ ∧ (z, es.flatMap encE) ∈ ks)) (h : NwI l f x9 u size M0 ks [] M) :
    ∃ M', LL.call 55 [.func (.yield l) #[] #[], pt x1, pt x2, pt x3] M = some (.tuple #[], M') ∧ NwI l f x9 u size M0 ks (flAdds s st es) M' := by
  rw [L_call55, E55]
  obtain ⟨k1, _⟩ := h.kp _ h1
  obtain ⟨k2, _⟩ := h.kp _ h2
  have y0 : M.ld x1 0 = some (.int .i64 p) := k1.ld 0
  have y1 : M.ld x1 1 = some (.int .i64 s) := k1.ld 1
  have y2 : M.ld x2 0 = some (.int .i64 st) := k2.ld 0
  obtain ⟨_, k⟩ := begun_spec p s st (.inl hr.2.2.2)
  rw [if_pos ⟨hr, hst⟩] at k
  obtain ⟨M1, r1, r2⟩ := nw_step h (by simp) (1 + st, 1)
  obtain ⟨k3, _⟩ := r2.kp _ h3
  have y3 : M1.ld x3 0 = some (.slice q es.length qc) := k3.ld 0
  have el := esAdds_len s es
  obtain ⟨M2, e1, e2⟩ := ent_loop (x2 := x2) (qc := qc) hr he hes h1 hz es.length 0 _ M1 (by omega) r2 (by simp; omega)
  obtain ⟨k1', _⟩ := e2.kp _ h1
  obtain ⟨k2', _⟩ := e2.kp _ h2
  have y0' : M2.ld x1 0 = some (.int .i64 p) := k1'.ld 0
  have y1' : M2.ld x1 1 = some (.int .i64 s) := k1'.ld 1
  have y2' : M2.ld x2 0 = some (.int .i64 st) := k2'.ld 0
  obtain ⟨_, k'⟩ := ended_spec p s st
  rw [if_pos ⟨hr, hst⟩] at k'
  rw [List.drop_zero] at e2
  obtain ⟨M3, r3, r4⟩ := nw_step e2 (by rw [List.length_append, List.nil_append, List.length_singleton]; omega) (1 + s + st, 1)
  refine ⟨M3, ?_, by simpa [flAdds] using r4⟩
  rw [bLI y0, bLI y1, bLI y2, bX k, bI, bX r1, bB, if_neg (by simp), bLS y3]
  simp only [ofN]
  rw [show (0 : Int) = ((0 : Nat) : Int) from rfl, e1, P55_42_eq, bLI y0', bLI y1', bLI y2', bX k', bI, bX r3, bB]

/-- A flush that may be. -/
def FlOk (p s st : Int) (es : List En) : Prop := (Rt p s ∧ 0 ≤ st ∧ st < s) ∧ es.length ≤ 4096 ∧ ∀ e ∈ es, 0 ≤ e.px ∧ e.px < p ∧ Int.tmod e.px s = st

instance (p s st : Int) (es : List En) : Decidable (FlOk p s st es) := by unfold FlOk Rt; infer_instance

def flNew (p s st : Int) (es : List En) : FS := ⟨1 + 2 * s + 3 * p, flAdds s st es, 0, false, 0, 0⟩

theorem new_end {M : AMem} {x3 : Nat} {p s st : Int} {es : List En} {q : Option Addr} {qc : Nat} (hok : FlOk p s st es) (h3 : Rd M x3 [.int .i64 p, .int .i64 s]) (hq : RdL M encE q es.length es) :
    ∃ M' f o c, P13_33 LL st q es.length qc x3 M = some (pt f, M') ∧ IsFl M' f o c (flNew p s st es) ∧ Same M M' [] ∧ M.length ≤ f ∧ ∀ b ∈ blk o, M.length ≤ b := by
  obtain ⟨⟨hr, hst⟩, hes, he⟩ := hok
  have y0 : M.ld x3 0 = some (.int .i64 p) := h3.ld 0
  have y1 : M.ld x3 1 = some (.int .i64 s) := h3.ld 1
  obtain ⟨_, k⟩ := size_spec p s
  rw [if_pos hr] at k
  rw [P13_33_eq, bLI y0, bLI y1, bX k, bI]
  have gf := cells_new M [.int .i64 (1 + 2 * s + 3 * p), .slice none 0 0, .int .i64 0, .bool false, .int .u64 0, .int .i64 0] 0
  have sf := same_app M [AObj.cells [.int .i64 (1 + 2 * s + 3 * p), .slice none 0 0, .int .i64 0, .bool false, .int .u64 0, .int .i64 0] ⟨false, 0⟩]
  have lf : (M ++ [AObj.cells [.int .i64 (1 + 2 * s + 3 * p), .slice none 0 0, .int .i64 0, .bool false, .int .u64 0, .int .i64 0] ⟨false, 0⟩]).length = M.length + 1 := by simp
  generalize M ++ [AObj.cells [.int .i64 (1 + 2 * s + 3 * p), .slice none 0 0, .int .i64 0, .bool false, .int .u64 0, .int .i64 0] ⟨false, 0⟩] = M1 at gf sf lf ⊢
  have g9 := cells_new M1 [.pointer none] 0
  have s9 := same_app M1 [AObj.cells [.pointer none] ⟨false, 0⟩]
  have l9 : (M1 ++ [AObj.cells [.pointer none] ⟨false, 0⟩]).length = M1.length + 1 := by simp
  generalize M1 ++ [AObj.cells [.pointer none] ⟨false, 0⟩] = M2 at g9 s9 l9 ⊢
  obtain ⟨M3, w1, w2, w3, w4⟩ := g9.wr (o := 0) (vs := [.pointer (some ⟨M.length, 0, none⟩)]) (by simp)
  have w2' : Cells M3 M1.length [.pointer (some ⟨M.length, 0, none⟩)] := by simpa [wrL] using w2
  have t3 : Same M M3 [] := ((sf.trans s9).trans w3).mono' (fun b hb hl => by simp at hb ⊢; omega)
  have f3 : Cells M3 M.length _ := (gf.same s9 (by simp)).same w3 (by simp; omega)
  have h3' := h3.same t3 (by simp)
  have y0' : M3.ld x3 0 = some (.int .i64 p) := h3'.ld 0
  have y1' : M3.ld x3 1 = some (.int .i64 s) := h3'.ld 1
  have l3 : M3.length = M.length + 2 := by omega
  rw [bX w1, bLI y0', bLI y1', L_call39, E39]
  have ga := cells_new M3 [.int .i64 p, .int .i64 s] 0
  have sa := same_app M3 [AObj.cells [.int .i64 p, .int .i64 s] ⟨false, 0⟩]
  have la : (M3 ++ [AObj.cells [.int .i64 p, .int .i64 s] ⟨false, 0⟩]).length = M3.length + 1 := by simp
  generalize M3 ++ [AObj.cells [.int .i64 p, .int .i64 s] ⟨false, 0⟩] = M4 at ga sa la ⊢
  have gb := cells_new M4 [.int .i64 st] 0
  have sb := same_app M4 [AObj.cells [.int .i64 st] ⟨false, 0⟩]
  have lb : (M4 ++ [AObj.cells [.int .i64 st] ⟨false, 0⟩]).length = M4.length + 1 := by simp
  generalize M4 ++ [AObj.cells [.int .i64 st] ⟨false, 0⟩] = M5 at gb sb lb ⊢
  have gc := cells_new M5 [.slice q es.length qc] 0
  have sc := same_app M5 [AObj.cells [.slice q es.length qc] ⟨false, 0⟩]
  have lc : (M5 ++ [AObj.cells [.slice q es.length qc] ⟨false, 0⟩]).length = M5.length + 1 := by simp
  generalize M5 ++ [AObj.cells [.slice q es.length qc] ⟨false, 0⟩] = M6 at gc sc lc ⊢
  simp only [Option.bind_some, anyOf?, leafV, if_true, funK_func, List.nil_append, List.cons_append]
  generalize hu : (Value.func (.func 55) #[] #[.pointer (some ⟨M3.length, 0, none⟩), .pointer (some ⟨M4.length, 0, none⟩), .pointer (some ⟨M5.length, 0, none⟩)]) = u
  have gl : (M6 ++ [AObj.loop (lo13_39 .ready none M1.length u)])[M6.length]? = some (.loop (lo13_39 .ready none M1.length u)) := get_new _ _
  have sl := same_app M6 [AObj.loop (lo13_39 .ready none M1.length u)]
  have ll : (M6 ++ [AObj.loop (lo13_39 .ready none M1.length u)]).length = M6.length + 1 := by simp
  generalize M6 ++ [AObj.loop (lo13_39 .ready none M1.length u)] = M7 at gl sl ll ⊢
  have t37 : Same M3 M7 [] := (((sa.trans sb).trans sc).trans sl).mono (by simp)
  have t7 : Same M M7 [] := (t3.trans t37).mono (by simp)
  have hx3 := h3.lt
  obtain ⟨z, hz⟩ : ∃ z, es = [] ∨ (q = some ⟨z, 0, none⟩ ∧ Rd M z (es.flatMap encE)) := by
    by_cases h0 : 0 < es.length
    · obtain ⟨z, h1, h2⟩ := hq.2 h0
      exact ⟨z, .inr ⟨h1, h2⟩⟩
    · exact ⟨0, .inl (List.length_eq_zero_iff.1 (by omega))⟩
  have hI : NwI M6.length M.length M1.length u (1 + 2 * s + 3 * p) M7 ([(M3.length, [.int .i64 p, .int .i64 s]), (M4.length, [.int .i64 st]), (M5.length, [.slice q es.length qc])] ++ (if es = [] then [] else [(z, es.flatMap encE)])) [] M7 := by
    refine ⟨gl, ⟨none, 0, ?_, Slc.nil _ _ _, by simp⟩, ((w2'.same t37 (by simp)).rd), fun k hk => ?_, .refl _ _, by omega, by omega, by omega⟩
    · exact f3.same t37 (by simp)
    · simp only [List.mem_append, List.mem_cons, List.not_mem_nil, or_false] at hk
      rcases hk with (rfl | rfl | rfl) | hk
      · exact ⟨(((ga.same sb (by simp)).same sc (by simp)).same sl (by simp)).rd, by simp only; omega, by simp only; omega⟩
      · exact ⟨((gb.same sc (by simp)).same sl (by simp)).rd, by simp only; omega, by simp only; omega⟩
      · exact ⟨(gc.same sl (by simp)).rd, by simp only; omega, by simp only; omega⟩
      · by_cases h0 : es = []
        · rw [if_pos h0] at hk; simp at hk
        · rw [if_neg h0] at hk
          simp at hk
          subst hk
          have hzr := (hz.resolve_left h0).2
          have := hzr.lt
          exact ⟨hzr.same t7 (by simp), by simp only; omega, by simp only; omega⟩
  obtain ⟨M8, r1, r2⟩ := adds_spec (z := z) (qc := qc) (q := q) (x1 := M3.length) (x2 := M4.length) (x3 := M5.length) hr hst (fun e h => ⟨(he e h).1, (he e h).2.1⟩) hes (by simp) (by simp) (by simp) (by
    by_cases h0 : es = []
    · exact .inl h0
    · exact .inr ⟨(hz.resolve_left h0).1, by simp [h0]⟩) hI
  obtain ⟨o, c, o1, o2, o3⟩ := r2.out
  have n1 : List.length M6 ≠ List.length M := by omega
  have sd := same_set M8 M6.length .dead
  have h9 := r2.h9.same sd (by simp; omega)
  have y9 : AMem.ld (M8.set M6.length .dead) M1.length 0 = some (.pointer (some ⟨M.length, 0, none⟩)) := h9.ld 0
  have al := esAdds_len s es
  refine ⟨M8.set M6.length .dead, M.length, o, c, ?_, ⟨?_, ?_, ?_, ?_, ?_⟩, ?_, Nat.le_refl _, ?_⟩
  · rw [bX r1]
    rw [rangeK_normal r2.lp (by simp [lo13_39]) rfl, P13_43_eq, bLP y9]
  · exact o1.same sd (by simp; omega)
  · refine ⟨rfl, fun h0 => ?_⟩
    obtain ⟨a, ha, hc⟩ := o2.pos h0
    subst ha
    exact ⟨a, rfl, (hc.same sd (by simp; exact (o3 a (by simp)).2.2.1)).rd⟩
  · exact fun b hb => (o3 b hb).2.1
  · simp [flNew]
  · simp only [flNew, flAdds, List.length_cons, List.length_append, List.length_nil]; omega
  · refine ((t7.trans r2.same).trans sd).mono' fun b hb hl => ?_
    simp at hb ⊢; omega
  · intro b hb
    have := (o3 b hb).1
    omega

theorem new_loop {x3 : Nat} {p s st : Int} {es : List En} {q : Option Addr} {qc : Nat} (hr : Rt p s) (hst : 0 ≤ st) : ∀ (d j : Nat) (M : AMem), j + d = es.length → es.length ≤ 4096 → Rd M x3 [.int .i64 p, .int .i64 s] → RdL M encE q es.length es →
    ∃ M', Same M M' [] ∧ P13_14 LL st q es.length qc x3 q es.length qc (es.length : Int) (j : Int) M = if ∀ e ∈ es.drop j, 0 ≤ e.px ∧ e.px < p ∧ Int.tmod e.px s = st then P13_33 LL st q es.length qc x3 M' else some (.pointer none, M') := by
  intro d
  induction d with
  | zero =>
    intro j M hj hes h3 hq
    refine ⟨M, .refl _ _, ?_⟩
    have hn : ∀ e ∈ es.drop j, 0 ≤ e.px ∧ e.px < p ∧ Int.tmod e.px s = st := by rw [List.drop_eq_nil_of_le (by omega)]; simp
    rw [P13_14_eq LL L_loop, ifDn (by omega), if_pos hn]
  | succ d ih =>
    intro j M hj hes h3 hq
    rw [P13_14_eq LL L_loop, ifD (by omega)]
    obtain ⟨z, rfl, hz⟩ := hq.2 (by omega)
    have hjl : j < es.length := by omega
    obtain ⟨e, hej⟩ : ∃ e, es[j]? = some e := ⟨_, List.getElem?_eq_getElem hjl⟩
    obtain ⟨l0, l1, l2, l3⟩ := ent_ld hz hej
    have s1 := same_app M [AObj.cells [.int .i64 0, .int .u64 0, .int .u64 0, .int .u64 0] ⟨false, 0⟩]
    have g1 := cells_new M [.int .i64 0, .int .u64 0, .int .u64 0, .int .u64 0] 0
    obtain ⟨M1, w1, w2, w3, w4⟩ := g1.wr (o := 0) (vs := encE e) (by simp [encE])
    unfold encE at w1 w2
    have w2' : Cells M1 M.length (encE e) := by simpa [wrL, encE] using w2
    have t1 : Same M M1 [] := (s1.trans w3).mono' (by simp)
    have h3' := h3.same t1 (by simp)
    have u0 : M1.ld M.length 0 = some (.int .i64 e.px) := w2'.ld 0
    have y0 : M1.ld x3 0 = some (.int .i64 p) := h3'.ld 0
    have y1 : M1.ld x3 1 = some (.int .i64 s) := h3'.ld 1
    have hw : IntKind.wrap .i64 ((j : Int) + 1) = ((j + 1 : Nat) : Int) := by rw [w64 (by omega)]; rfl
    have hg : (0 : Int) ≤ (j : Int) ∧ (j : Int) < Int.ofNat es.length := by rw [ofN]; omega
    have hd : es.drop j = e :: es.drop (j + 1) := by rw [List.drop_eq_getElem_cons hjl]; congr 1; exact (List.getElem?_eq_some_iff.1 hej).2
    obtain ⟨_, k⟩ := stripe_spec p s e.px
    simp only [↓if_pos hg, Nat.zero_add, Int.toNat_natCast, ↓bLI l0, ↓bLI l1, ↓bLI l2, ↓bLI l3, ↓bX w1, ↓bLI u0, ↓bLI y0, ↓bLI y1]
    rw [bX k, bI]
    by_cases c : 0 ≤ e.px ∧ e.px < p ∧ Int.tmod e.px s = st
    · have e1 : (if Rt p s ∧ 0 ≤ e.px ∧ e.px < p then Int.tmod e.px s else -1) = st := by rw [if_pos ⟨hr, c.1, c.2.1⟩]; exact c.2.2
      rw [e1, bne_self_eq_false, ifF, P13_32_eq, hw]
      obtain ⟨M', k1, k2⟩ := ih (j + 1) M1 (by omega) hes h3' (hq.same t1 (by simp))
      refine ⟨M', (t1.trans k1).mono (by simp), ?_⟩
      rw [k2, hd]
      simp only [List.forall_mem_cons, c, and_self, true_and]
    · refine ⟨M1, t1, ?_⟩
      have hno : ¬ ∀ e ∈ es.drop j, 0 ≤ e.px ∧ e.px < p ∧ Int.tmod e.px s = st := by rw [hd]; simp only [List.forall_mem_cons]; exact fun h => c h.1
      have hne : ((if Rt p s ∧ 0 ≤ e.px ∧ e.px < p then Int.tmod e.px s else -1) != st) = true := by
        rw [bne_iff_ne]
        split
        · rename_i hh; exact fun h => c ⟨hh.2.1, hh.2.2, h⟩
        · omega
      rw [hne, ifT, if_neg hno]

theorem fnew_spec {p s st : Int} {es : List En} {q : Option Addr} {qc : Nat} {M : AMem} (hq : RdL M encE q es.length es) (hl : es.length ≤ 1000000) :
    (FlOk p s st es → ∃ M' f o c, LL.call 13 [lay p s, .int .i64 st, .slice q es.length qc] M = some (pt f, M') ∧ IsFl M' f o c (flNew p s st es) ∧ Same M M' [] ∧ M.length ≤ f ∧ ∀ b ∈ blk o, M.length ≤ b) ∧
    (¬ FlOk p s st es → ∃ M', LL.call 13 [lay p s, .int .i64 st, .slice q es.length qc] M = some (.pointer none, M') ∧ Same M M' []) := by
  rw [L_call13, E13]
  have g1 := cells_new M [.int .i64 p, .int .i64 s] 0
  have s1 := same_app M [AObj.cells [.int .i64 p, .int .i64 s] ⟨false, 0⟩]
  have l1 : (M ++ [AObj.cells [.int .i64 p, .int .i64 s] ⟨false, 0⟩]).length = M.length + 1 := by simp
  generalize M ++ [AObj.cells [.int .i64 p, .int .i64 s] ⟨false, 0⟩] = M1 at g1 s1 l1 ⊢
  have y0 : M1.ld M.length 0 = some (.int .i64 p) := g1.ld 0
  have y1 : M1.ld M.length 1 = some (.int .i64 s) := g1.ld 1
  obtain ⟨_, k⟩ := begun_spec p s st (by by_cases h : Rt p s; exact .inl h.2.2.2; exact .inr h)
  rw [bLI y0, bLI y1, bX k, bI]
  by_cases hst : Rt p s ∧ 0 ≤ st ∧ st < s
  · rw [if_pos hst, ifDn (by omega)]
    by_cases hes : es.length ≤ 4096
    · rw [ifDn (by rw [ofN]; omega)]
      obtain ⟨M2, k1, k2⟩ := new_loop (x3 := M.length) (qc := qc) hst.1 hst.2.1 es.length 0 M1 (by omega) hes g1.rd (hq.same s1 (by simp))
      rw [List.drop_zero] at k2
      rw [ofN, show (0 : Int) = ((0 : Nat) : Int) from rfl, k2]
      have t2 := (s1.trans k1).mono (T := []) (by simp)
      by_cases c : ∀ e ∈ es, 0 ≤ e.px ∧ e.px < p ∧ Int.tmod e.px s = st
      · rw [if_pos c]
        refine ⟨fun hok => ?_, fun h => absurd ⟨hst, hes, c⟩ h⟩
        obtain ⟨M', f, o, c', e1, e2, e3, e4, e5⟩ := new_end (qc := qc) hok (g1.rd.same k1 (by simp)) (hq.same t2 (by simp))
        have := t2.le
        exact ⟨M', f, o, c', e1, e2, (t2.trans e3).mono (by simp), by omega, fun b hb => by have := e5 b hb; omega⟩
      · rw [if_neg c]
        exact ⟨fun hok => absurd hok.2.2 c, fun _ => ⟨M2, rfl, t2⟩⟩
    · rw [ifD (by rw [ofN]; omega)]
      exact ⟨fun hok => absurd hok.2.1 hes, fun _ => ⟨M1, rfl, s1⟩⟩
  · rw [if_neg hst, ifD (by omega)]
    exact ⟨fun hok => absurd hok.1 hst, fun _ => ⟨M1, rfl, s1⟩⟩

end Go.Proofs.Ytpnknolehckfhaa
