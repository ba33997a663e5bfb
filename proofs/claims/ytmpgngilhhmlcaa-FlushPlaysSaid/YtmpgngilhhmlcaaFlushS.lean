/- The law's own functions over flushes: of, fits, same, made; flush.Steps. -/
import Derived.Test.YtmpgngilhhmlcaaFlushM
import Derived.Test.YtmpgngilhhmlcaaEqLaw33
set_option linter.unusedVariables false
set_option linter.unusedSimpArgs false
namespace Go.Proofs.Ytmpgngilhhmlcaa
open Go Go.Ax

theorem lay33_spec (p s : Int) : ∃ M, LL.call 22 [lay p s] [] = some (lay p s, M) := by
  rw [L_call22, E22]
  exact ⟨_, rfl⟩

theorem of_loop {q : Option Addr} {es : List En} {qc : Nat} (hl : es.length ≤ 1000000) : ∀ (d j : Nat) (M : AMem) (o : Option Addr) (oc : Nat), j + d = es.length → RdL M encE q es.length es → (∀ b ∈ blk q, 0 < es.length → b ∉ blk o) → Slc M 4 o j oc ((es.take j).flatMap encE) →
    ∃ M' o' oc', P23_8 LL q es.length qc o j oc j M = some (.slice o' es.length oc', M') ∧ Slc M' 4 o' es.length oc' (es.flatMap encE) ∧ Grn M o M' o' := by
  intro d
  induction d with
  | zero =>
    intro j M o oc hj hq hqo ho
    obtain rfl : j = es.length := by omega
    rw [List.take_length] at ho
    rw [P23_8_eq LL L_loop, ifDn (by rw [ofN]; omega), P23_19_eq]
    exact ⟨M, o, oc, rfl, ho, .refl _ _⟩
  | succ d ih =>
    intro j M o oc hj hq hqo ho
    rw [P23_8_eq LL L_loop, ifD (by rw [ofN]; omega)]
    have hjl : j < es.length := by omega
    obtain ⟨z, rfl, hz⟩ := hq.2 (by omega)
    obtain ⟨e, hej⟩ : ∃ e, es[j]? = some e := ⟨_, List.getElem?_eq_getElem hjl⟩
    obtain ⟨l0, l1, l2, l3⟩ := ent_ld hz hej
    have hg : (0 : Int) ≤ (j : Int) ∧ (j : Int) < Int.ofNat es.length := by rw [ofN]; omega
    have hw : IntKind.wrap .i64 ((j : Int) + 1) = ((j + 1 : Nat) : Int) := by rw [w64 (by omega)]; rfl
    have hrow := rowOf_new M 4 1 (encE e) 0 4 rfl
    obtain ⟨M1, g1, g2, g3⟩ := grn_row (bytes := 32) (new := encE e) (m := 1) (v := 0) ho rfl (by omega) (by omega)
    unfold encE at g1 hrow
    have ht : (es.take j).flatMap encE ++ encE e = (es.take (j + 1)).flatMap encE := by rw [List.take_add_one, hej]; simp
    rw [ht] at g2
    have hzl := hz.lt
    obtain ⟨M', o', oc', k1, k2, k3⟩ := ih (j + 1) M1 _ 4 (by omega) (hq.same g3.same (fun b hb => hqo b hb (by omega))) (fun b hb h0 => g3.not (by simp at hb; omega) (hqo b hb h0)) g2
    refine ⟨M', o', oc', ?_, k2, g3.trans k3⟩
    simp only [↓if_pos hg, Nat.zero_add, Int.toNat_natCast, ↓bLI l0, ↓bLI l1, ↓bLI l2, ↓bLI l3, ↓bX hrow, g1, Nat.add_assoc, Nat.reduceAdd]
    rw [P23_18_eq, hw]
    exact k1

theorem of33_spec {M : AMem} {q : Option Addr} {es : List En} {qc : Nat} (hq : RdL M encE q es.length es) (hl : es.length ≤ 1000000) :
    ∃ M' o oc, LL.call 23 [.slice q es.length qc] M = some (.slice o es.length oc, M') ∧ RdL M' encE o es.length es ∧ Same M M' [] ∧ ∀ b ∈ blk o, M.length ≤ b := by
  rw [L_call23, E23]
  obtain ⟨M', o', oc', k1, k2, k3⟩ := of_loop (qc := qc) hl es.length 0 M none 0 (by omega) hq (by simp) (by simpa using Slc.nil M 4 0)
  refine ⟨M', o', oc', k1, ⟨rfl, fun h => ?_⟩, k3.same, fun b hb => (k3.new b hb).resolve_left (by simp)⟩
  obtain ⟨a, h1, h2⟩ := k2.pos h
  exact ⟨a, h1, h2.rd⟩

/-- How many steps a flush takes alone. -/
theorem stc_step {q : Option Addr} {qn qc : Nat} {x9 x10 n : Int} {w0 w1 w2 : Int} {M : AMem} (hn : 0 ≤ n ∧ n < 1000000) (c : Nat) (hc : c < 3) (w : Int) (hw : ([w0, w1, w2] : List Int)[c]? = some w) (S px : Int) :
    P24_22 LL n q qn qc x9 x10 w0 w1 w2 (c : Int) M = P24_22 LL (n + ((chAdd S px c w).length : Nat)) q qn qc x9 x10 w0 w1 w2 ((c + 1 : Nat) : Int) M := by
  rw [P24_22_eq LL L_loop n]
  have a2 : (0 : Int) ≤ (c : Int) ∧ (c : Int) < 3 := by omega
  have a3 : ([w0, w1, w2] : List Int)[((Int.toNat (c : Int)) * 1)]? = some w := by rw [Int.toNat_natCast, Nat.mul_one]; exact hw
  have wc : IntKind.wrap .i64 ((c : Int) + 1) = ((c + 1 : Nat) : Int) := by rw [w64 (by omega)]; rfl
  have wn : IntKind.wrap .i64 (n + 1) = n + 1 := w64 (by omega)
  rw [ifD (by omega), if_pos a2, bX a3]
  unfold chAdd
  by_cases hz : w = 0
  · subst hz
    rw [if_neg (by simp), P24_38_eq, wc, if_pos rfl]
    simp
  · rw [if_pos (by simpa using hz), P24_38_eq, wc, wn, if_neg hz]
    simp

theorem st_loop {q : Option Addr} {es : List En} {qc : Nat} (hl : es.length ≤ 100000) (S : Int) : ∀ (d j : Nat) (n : Int) (M : AMem), j + d = es.length → RdL M encE q es.length es → 0 ≤ n ∧ n + 3 * d < 900000 →
    ∃ M', P24_8 LL n q es.length qc (es.length : Int) j M = some (.int .i64 (2 * (n + (((es.drop j).flatMap (enAdds S)).length : Nat))), M') ∧ Same M M' [] := by
  intro d
  induction d with
  | zero =>
    intro j n M hj hq hn
    rw [P24_8_eq LL L_loop, ifDn (by omega), P24_40_eq, List.drop_eq_nil_of_le (by omega)]
    refine ⟨M, ?_, .refl _ _⟩
    rw [w64 (by omega)]
    simp
  | succ d ih =>
    intro j n M hj hq hn
    rw [P24_8_eq LL L_loop, ifD (by omega)]
    have hjl : j < es.length := by omega
    obtain ⟨z, rfl, hz⟩ := hq.2 (by omega)
    obtain ⟨e, hej⟩ : ∃ e, es[j]? = some e := ⟨_, List.getElem?_eq_getElem hjl⟩
    obtain ⟨l0, l1, l2, l3⟩ := ent_ld hz hej
    have hg : (0 : Int) ≤ (j : Int) ∧ (j : Int) < Int.ofNat es.length := by rw [ofN]; omega
    have hw : IntKind.wrap .i64 ((j : Int) + 1) = ((j + 1 : Nat) : Int) := by rw [w64 (by omega)]; rfl
    have s1 := same_app M [AObj.cells [.int .i64 0, .int .u64 0, .int .u64 0, .int .u64 0] ⟨false, 0⟩]
    have g1 := cells_new M [.int .i64 0, .int .u64 0, .int .u64 0, .int .u64 0] 0
    obtain ⟨M1, w1, w2, w3, w4⟩ := g1.wr (o := 0) (vs := encE e) (by simp [encE])
    unfold encE at w1 w2
    have w2' : Cells M1 M.length (encE e) := by simpa [wrL, encE] using w2
    have t1 : Same M M1 [] := (s1.trans w3).mono' (by simp)
    have u0 : M1.ld M.length 1 = some (.int .u64 e.w0) := w2'.ld 1
    have u1 : M1.ld M.length 2 = some (.int .u64 e.w1) := w2'.ld 2
    have u2 : M1.ld M.length 3 = some (.int .u64 e.w2) := w2'.ld 3
    have hd : es.drop j = e :: es.drop (j + 1) := by rw [List.drop_eq_getElem_cons hjl]; congr 1; exact (List.getElem?_eq_some_iff.1 hej).2
    have c0 := chAdd_len S e.px 0 e.w0
    have c1 := chAdd_len S e.px 1 e.w1
    have c2 := chAdd_len S e.px 2 e.w2
    have f0 := stc_step (q := some ⟨z, 0, none⟩) (qn := es.length) (qc := qc) (x9 := (es.length : Int)) (x10 := (j : Int)) (n := n) (w0 := e.w0) (w1 := e.w1) (w2 := e.w2) (M := M1) (by omega) 0 (by omega) e.w0 rfl S e.px
    have f1 := stc_step (q := some ⟨z, 0, none⟩) (qn := es.length) (qc := qc) (x9 := (es.length : Int)) (x10 := (j : Int)) (n := n + ((chAdd S e.px 0 e.w0).length : Nat)) (w0 := e.w0) (w1 := e.w1) (w2 := e.w2) (M := M1) (by omega) 1 (by omega) e.w1 rfl S e.px
    have f2 := stc_step (q := some ⟨z, 0, none⟩) (qn := es.length) (qc := qc) (x9 := (es.length : Int)) (x10 := (j : Int)) (n := n + ((chAdd S e.px 0 e.w0).length : Nat) + ((chAdd S e.px 1 e.w1).length : Nat)) (w0 := e.w0) (w1 := e.w1) (w2 := e.w2) (M := M1) (by omega) 2 (by omega) e.w2 rfl S e.px
    obtain ⟨M', k1, k2⟩ := ih (j + 1) (n + ((chAdd S e.px 0 e.w0).length : Nat) + ((chAdd S e.px 1 e.w1).length : Nat) + ((chAdd S e.px 2 e.w2).length : Nat)) M1 (by omega) (hq.same t1 (by simp)) (by omega)
    refine ⟨M', ?_, (t1.trans k2).mono (by simp)⟩
    simp only [↓if_pos hg, Nat.zero_add, Int.toNat_natCast, ↓bLI l0, ↓bLI l1, ↓bLI l2, ↓bLI l3, ↓bX w1, ↓bLI u0, ↓bLI u1, ↓bLI u2]
    rw [show (0 : Int) = ((0 : Nat) : Int) from rfl, f0, f1, f2, P24_22_eq LL L_loop, if_neg (by simp), P24_39_eq, hw, k1, hd, List.flatMap_cons, List.length_append, enAdds, List.length_append, List.length_append]
    congr 3
    omega

theorem steps_flush {M : AMem} {q : Option Addr} {es : List En} {qc : Nat} (hq : RdL M encE q es.length es) (hl : es.length ≤ 100000) (S st : Int) :
    ∃ M', LL.call 24 [.slice q es.length qc] M = some (.int .i64 (2 * ((flAdds S st es).length : Nat)), M') ∧ Same M M' [] := by
  rw [L_call24, E24]
  obtain ⟨M', k1, k2⟩ := st_loop (qc := qc) hl S es.length 0 2 M (by omega) hq (by omega)
  refine ⟨M', ?_, k2⟩
  rw [ofN, show (0 : Int) = ((0 : Nat) : Int) from rfl, k1, List.drop_zero]
  congr 3
  simp [flAdds]
  omega

/-! ### lists that are one -/

theorem same33_loop {M : AMem} {p q : Option Addr} {n c d : Nat} {la lb : List Int} (hp : RdI M .u64 p n la) (hq : RdI M .u64 q n lb) (hn : n ≤ 1000000000) : ∀ (k i : Nat), i + k = n →
    P16_14 LL p n c q n d i M = some (.bool (decide (la.drop i = lb.drop i)), M) := by
  intro k
  induction k with
  | zero =>
    intro i hi
    obtain rfl : i = n := by omega
    rw [P16_14_eq LL L_loop]
    have h1 : la.drop i = [] := List.drop_eq_nil_of_le (by have := hp.1; omega)
    have h2 : lb.drop i = [] := List.drop_eq_nil_of_le (by have := hq.1; omega)
    simp [P16_31_eq, h1, h2]
  | succ k ih =>
    intro i hi
    obtain ⟨a, rfl, ha⟩ := hp.2 (by omega)
    obtain ⟨b, rfl, hb⟩ := hq.2 (by omega)
    rw [P16_14_eq LL L_loop]
    have hlt : (i : Int) < Int.ofNat n := by show (i : Int) < (n : Int); omega
    have h0 : (0 : Int) ≤ (i : Int) := by omega
    have ia : i < la.length := by have := hp.1; omega
    have ib : i < lb.length := by have := hq.1; omega
    have hw : IntKind.wrap .i64 ((i : Int) + 1) = ((i + 1 : Nat) : Int) := by rw [w64 (by omega)]; rfl
    have da : la.drop i = la.getD i 0 :: la.drop (i + 1) := by rw [List.drop_eq_getElem_cons ia, List.getD_eq_getElem?_getD, List.getElem?_eq_getElem ia]; rfl
    have db : lb.drop i = lb.getD i 0 :: lb.drop (i + 1) := by rw [List.drop_eq_getElem_cons ib, List.getD_eq_getElem?_getD, List.getElem?_eq_getElem ib]; rfl
    simp only [hlt, h0, and_self, decide_true, if_true, Nat.zero_add, Nat.mul_one, Int.toNat_natCast, ha.ld, hb.ld, ints_nat ia, ints_nat ib, intOf_int, Option.bind_some]
    rw [da, db]
    by_cases e : la.getD i 0 = lb.getD i 0
    · simp only [e, bne_self_eq_false, Bool.false_eq_true, if_false, P16_30_eq, hw]
      rw [ih (i + 1) (by omega)]
      simp
    · have : (la.getD i 0 != lb.getD i 0) = true := by simpa using e
      simp only [this, if_true]
      congr 3
      symm
      exact decide_eq_false fun h => e (List.cons.inj h).1

theorem same33_spec {M : AMem} {p q : Option Addr} {n m c d : Nat} {la lb : List Int} (hp : RdI M .u64 p n la) (hq : RdI M .u64 q m lb) (hn : n ≤ 1000000000) :
    LL.call 16 [.slice p n c, .slice q m d] M = some (.bool (decide (la = lb)), M) := by
  rw [L_call16, E16]
  by_cases e : n = m
  · subst e
    have := same33_loop (c := c) (d := d) hp hq hn n 0 (by omega)
    simp only [List.drop_zero] at this
    simp only [bne_self_eq_false, Bool.false_eq_true, if_false]
    exact this
  · have h1 : (Int.ofNat n != Int.ofNat m) = true := by
      simp only [bne_iff_ne, ne_eq]
      intro h
      exact e (Int.ofNat.inj h)
    simp only [h1, if_true]
    congr 3
    symm
    exact decide_eq_false fun h => e (by rw [← hp.1, ← hq.1, h])

/-! ### jobs -/

structure Jb where
  st : Int
  p : Option Addr
  es : List En

def encJ (j : Jb) : List Value := [.int .i64 j.st, .slice j.p j.es.length 0]
theorem encJ_length (j : Jb) : (encJ j).length = 2 := rfl

/-- Jobs as they are handed in: below N. -/
structure Jobs (N : Nat) (M : AMem) (q : Option Addr) (js : List Jb) : Prop where
  rd : RdL M encJ q js.length js
  bq : 0 < js.length → ∀ b ∈ blk q, b < N
  es : ∀ j ∈ js, RdL M encE j.p j.es.length j.es ∧ (0 < j.es.length → ∀ b ∈ blk j.p, b < N)

theorem rdl_same {T : Type} {M M' : AMem} {enc : T → List Value} {S : List Nat} {p : Option Addr} {n : Nat} {l : List T} (h : RdL M enc p n l) (hs : Same M M' S) (hb : 0 < n → ∀ x ∈ blk p, x ∉ S) : RdL M' enc p n l :=
  ⟨h.1, fun hn => let ⟨a, e, hc⟩ := h.2 hn; ⟨a, e, hc.same hs (hb hn a (by rw [e]; simp))⟩⟩

theorem Jobs.same {N : Nat} {M M' : AMem} {q : Option Addr} {js : List Jb} {S : List Nat} (h : Jobs N M q js) (s : Same M M' S) (hS : ∀ b ∈ S, N ≤ b) : Jobs N M' q js :=
  ⟨rdl_same h.rd s (fun h0 b hb hbs => by have := h.bq h0 b hb; have := hS b hbs; omega), h.bq,
    fun j hj => ⟨rdl_same (h.es j hj).1 s (fun h0 b hb hbs => by have := (h.es j hj).2 h0 b hb; have := hS b hbs; omega), (h.es j hj).2⟩⟩

theorem Jobs.ld {N : Nat} {M : AMem} {q : Option Addr} {js : List Jb} (h : Jobs N M q js) {i : Nat} {j : Jb} (hj : js[i]? = some j) : ∃ z, q = some ⟨z, 0, none⟩ ∧ Rd M z (js.flatMap encJ) ∧ M.ld z (i * 2) = some (.int .i64 j.st) ∧ M.ld z (i * 2 + 1) = some (.slice j.p j.es.length 0) := by
  have hlt := (List.getElem?_eq_some_iff.1 hj).1
  obtain ⟨z, hz, hr⟩ := h.rd.2 (by omega)
  refine ⟨z, hz, hr, ?_, ?_⟩
  · have := flat_get encJ_length js i 0 j hj (by omega); rw [Nat.add_zero] at this; rw [hr.ld, this]; rfl
  · rw [hr.ld, flat_get encJ_length js i 1 j hj (by omega)]; rfl

def totJ (js : List Jb) : Nat := (js.map fun j => j.es.length).sum

theorem totJ_le : ∀ (js : List Jb), (∀ j ∈ js, j.es.length ≤ 1000000000000000) → totJ js ≤ js.length * 1000000000000000
  | [], _ => by simp [totJ]
  | j :: js, h => by
    have := totJ_le js (fun k hk => h k (by simp [hk]))
    have := h j (by simp)
    simp only [totJ, List.map_cons, List.sum_cons, List.length_cons] at *
    omega

theorem totJ_mem : ∀ {js : List Jb} {j : Jb}, j ∈ js → j.es.length ≤ totJ js
  | k :: js, j, h => by
    simp only [totJ, List.map_cons, List.sum_cons]
    rcases List.mem_cons.1 h with rfl | h
    · omega
    · have := totJ_mem h; unfold totJ at this; omega

theorem fits_loop {N : Nat} {M : AMem} {q : Option Addr} {js : List Jb} {qc : Nat} (h : Jobs N M q js) (hjl : js.length ≤ 1000000000000000) (hes : ∀ j ∈ js, j.es.length ≤ 1000000000000000) : ∀ (d i : Nat) (n : Int), i + d = js.length → (js.length ≤ 6 → n = (totJ (js.take i) : Nat)) →
    ∃ n', P7_8 LL q js.length qc n i M = P7_19 LL q js.length qc n' M ∧ (js.length ≤ 6 → n' = (totJ js : Nat)) := by
  intro d
  induction d with
  | zero =>
    intro i n hi hn
    rw [P7_8_eq LL L_loop, ifDn (by rw [ofN]; omega)]
    exact ⟨n, rfl, fun h6 => by rw [hn h6, List.take_of_length_le (by omega)]⟩
  | succ d ih =>
    intro i n hi hn
    have hil : i < js.length := by omega
    obtain ⟨j, hj⟩ : ∃ j, js[i]? = some j := ⟨_, List.getElem?_eq_getElem hil⟩
    obtain ⟨z, rfl, hz, l0, l1⟩ := h.ld hj
    have hg : (0 : Int) ≤ (i : Int) ∧ (i : Int) < Int.ofNat js.length := by rw [ofN]; omega
    have hw : IntKind.wrap .i64 ((i : Int) + 1) = ((i + 1 : Nat) : Int) := by rw [w64 (by omega)]; rfl
    have ht : totJ (js.take (i + 1)) = totJ (js.take i) + j.es.length := by rw [List.take_add_one, hj]; simp [totJ]
    obtain ⟨n', k1, k2⟩ := ih (i + 1) (IntKind.wrap .i64 (n + (j.es.length : Nat))) (by omega) (fun h6 => by
      have hb := totJ_le (js.take (i + 1)) (fun k hk => hes k (List.mem_of_mem_take hk))
      have hb2 : (js.take (i + 1)).length ≤ 6 := by rw [List.length_take]; omega
      have hb3 : (js.take (i + 1)).length * 1000000000000000 ≤ 6 * 1000000000000000 := Nat.mul_le_mul_right _ hb2
      rw [hn h6, ht, w64 (by omega)]
      omega)
    refine ⟨n', ?_, k2⟩
    rw [P7_8_eq LL L_loop, ifD hg.2]
    simp only [↓if_pos hg, Nat.zero_add, Int.toNat_natCast, ↓bLS l1, ofN]
    rw [P7_18_eq, hw]
    exact k1

theorem fits_spec {N : Nat} {M : AMem} {q : Option Addr} {js : List Jb} {qc : Nat} (h : Jobs N M q js) (hjl : js.length ≤ 1000000000000000) (hes : ∀ j ∈ js, j.es.length ≤ 1000000000000000) :
    LL.call 7 [.slice q js.length qc] M = some (.bool (decide (js.length ≤ 6 ∧ totJ js ≤ 24)), M) := by
  rw [L_call7, E7]
  obtain ⟨n', k1, k2⟩ := fits_loop (qc := qc) h hjl hes js.length 0 0 (by omega) (fun _ => by simp [totJ])
  rw [show (0 : Int) = ((0 : Nat) : Int) from rfl] at *
  rw [k1, P7_19_eq]
  by_cases c : js.length ≤ 6
  · rw [ifD (by rw [ofN]; omega), k2 c]
    congr 3
    rw [decide_eq_decide]
    omega
  · rw [ifDn (by rw [ofN]; omega), decide_eq_false (by omega)]

end Go.Proofs.Ytmpgngilhhmlcaa
