/- The program's looks: New, Done, Tries, Film; films that are one. -/
import Derived.Test.YtpnknolehckfhaaPeekQ
import Derived.Test.YtpnknolehckfhaaEqLaw34
set_option linter.unusedVariables false
set_option linter.unusedSimpArgs false
namespace Go.Proofs.Ytpnknolehckfhaa
open Go Go.Ax

theorem pdone_spec {M : AMem} {b be bb bf : Nat} {x : PK} (h : IsPk M b be bb bf x) : LL.call 15 [pt b] M = some (.bool x.over, M) := by
  rw [L_call15, E15, bX (given_spec h), bB, ifT]
  obtain ⟨_, _, _, _, _, _, _, _, _, h9⟩ := h.ld
  simp only [Nat.zero_add]
  rw [bLB h9]

theorem pdone_nil (M : AMem) : LL.call 15 [.pointer none] M = some (.bool false, M) := by
  rw [L_call15, E15, bX (given_nil M), bB, ifF]

theorem ptries_spec {M : AMem} {b be bb bf : Nat} {x : PK} (h : IsPk M b be bb bf x) : LL.call 21 [pt b] M = some (.int .i64 (x.tries : Int), M) := by
  rw [L_call21, E21]
  obtain ⟨_, _, _, h3, _⟩ := h.ld
  simp only [Option.isNone_some, Bool.false_eq_true, if_false, Nat.zero_add]
  rw [bLI h3]

theorem ptries_nil (M : AMem) : LL.call 21 [.pointer none] M = some (.int .i64 0, M) := by
  rw [L_call21, E21]
  simp

/-- Pixels of three numbers each. -/
def RdF (M : AMem) (p : Option Addr) (n : Nat) (F : List Int) : Prop := F.length = 3 * n ∧ (0 < n → ∃ a, p = some ⟨a, 0, none⟩ ∧ Rd M a (ints .u64 F))

theorem RdF.same {M M' : AMem} {S : List Nat} {p : Option Addr} {n : Nat} {F : List Int} (h : RdF M p n F) (hs : Same M M' S) (hb : 0 < n → ∀ x ∈ blk p, x ∉ S) : RdF M' p n F :=
  ⟨h.1, fun hn => let ⟨a, e, hc⟩ := h.2 hn; ⟨a, e, hc.same hs (hb hn a (by rw [e]; simp))⟩⟩

/-- The film that a look has. -/
def pkFilm (x : PK) : List Int := (x.arr.drop x.s).take (3 * x.p)

theorem pkFilm_len {M : AMem} {b be bb bf : Nat} {x : PK} (h : IsPk M b be bb bf x) : (pkFilm x).length = 3 * x.p := by
  have := h.len
  unfold PK.all at this
  simp only [pkFilm, List.length_take, List.length_drop]; omega

theorem clone_spec {M : AMem} {a n c : Nat} {F : List Int} (h : Rd M a (ints .u64 F)) (hn : F.length = 3 * n) (hm : n ≤ 1000000) :
    ∃ M' p c', LL.call 47 [.slice (some ⟨a, 0, none⟩) n c] M = some (.slice p n c', M') ∧ RdF M' p n F ∧ Same M M' [] ∧ ∀ x ∈ blk p, M.length ≤ x := by
  rw [L_call47, E47]
  have g0 := cells_new M [] 0
  have s0 := same_app M [AObj.cells [] ⟨false, 0⟩]
  have l0 : (M ++ [AObj.cells [] ⟨false, 0⟩]).length = M.length + 1 := by simp
  generalize M ++ [AObj.cells [] ⟨false, 0⟩] = M0 at g0 s0 l0 ⊢
  have hr : rowOf M0 3 (.slice (some ⟨a, 0, none⟩) n c) = some (ints .u64 F) := by
    rw [rowOf_some (h.same s0 (by simp)) (by simp; omega), List.drop_zero, List.take_of_length_le (by simp; omega)]
  rw [if_neg (by simp), bX hr]
  by_cases hn0 : n = 0
  · subst hn0
    refine ⟨M0, some ⟨M.length, 0, none⟩, 3, ?_, ⟨by omega, fun h => by omega⟩, s0, by simp⟩
    simp [appendK]
  · obtain ⟨M', h1, h2, h3, h4⟩ := append_own (bytes := 24) (n := 0) (c := 3) (m := n) (Slc.of (n := 0) g0 rfl) (new := ints .u64 F) (by simp; omega) hn0 (by omega)
    refine ⟨M', _, 3, by rw [h1, Nat.zero_add], ⟨hn, fun _ => ?_⟩, (s0.trans h3).mono' (by simp), by simp; omega⟩
    rw [Nat.zero_add] at h2
    obtain ⟨z, e1, e2⟩ := h2.pos (by omega)
    exact ⟨z, e1, by simpa using e2.rd⟩

theorem pfilm_spec {M : AMem} {b be bb bf : Nat} {x : PK} (h : IsPk M b be bb bf x) :
    ∃ M' p c, LL.call 20 [pt b] M = some (.tuple #[.slice p (if x.over = true ∧ x.en = 0 then x.p else 0) c, .int .i64 (if x.over = true then x.en else 13)], M') ∧
      RdF M' p (if x.over = true ∧ x.en = 0 then x.p else 0) (if x.over = true ∧ x.en = 0 then pkFilm x else []) ∧ Same M M' [] ∧ ∀ z ∈ blk p, M.length ≤ z := by
  rw [L_call20, E20, bX (pdone_spec h), bB]
  obtain ⟨_, _, _, _, _, _, _, h7, h8, _⟩ := h.ld
  cases ho : x.over with
  | false =>
    rw [ifNF]
    exact ⟨M, none, 0, by simp, ⟨by simp, fun h => by simp at h⟩, .refl _ _, by simp⟩
  | true =>
    rw [ifNT]
    simp only [Nat.zero_add]
    rw [bLI h8]
    by_cases e : x.en = 0
    · rw [show (x.en != 0) = false by simp [e], ifF, P20_17_eq]
      simp only [Nat.zero_add]
      have hr := h.rt
      obtain ⟨M', p, c, k1, k2, k3, k4⟩ := clone_spec (c := 3) h.cf.rd (pkFilm_len h) (by obtain ⟨r1, r2, r3, r4⟩ := hr; omega)
      refine ⟨M', p, c, ?_, by rw [if_pos ⟨trivial, e⟩, if_pos ⟨trivial, e⟩]; exact k2, k3, k4⟩
      rw [bLS h7, bX k1, bS]
      simp [e]
    · rw [show (x.en != 0) = true by simpa using e, ifT, bLI h8]
      exact ⟨M, none, 0, by simp [e], ⟨by simp [e], fun h => by simp [e] at h⟩, .refl _ _, by simp⟩

theorem pfilm_nil (M : AMem) : LL.call 20 [.pointer none] M = some (.tuple #[.slice none 0 0, .int .i64 13], M) := by
  rw [L_call20, E20, bX (pdone_nil M), bB, ifNF]

/-- A look that has read nothing. -/
def pkNew (p s t : Int) : PK := ⟨p.toNat, s.toNat, t.toNat, 0, 0, List.replicate (2 * s.toNat + 3 * p.toNat) 0, false, 0⟩

theorem pnew_spec {p s t : Int} (M : AMem) (hr : Rt p s) (ht : 1 ≤ t ∧ t ≤ 1000) :
    ∃ M' b be bb bf, LL.call 11 [lay p s, .int .i64 t] M = some (pt b, M') ∧ IsPk M' b be bb bf (pkNew p s t) ∧ Same M M' [] ∧ ∀ z ∈ [b, be, bb, bf], M.length ≤ z := by
  rw [L_call11, E11]
  have hr' := hr
  obtain ⟨r1, r2, r3, r4⟩ := hr'
  have g0 := cells_new M [.int .i64 p, .int .i64 s] 0
  have s0 := same_app M [AObj.cells [.int .i64 p, .int .i64 s] ⟨false, 0⟩]
  have l0 : (M ++ [AObj.cells [.int .i64 p, .int .i64 s] ⟨false, 0⟩]).length = M.length + 1 := by simp
  generalize M ++ [AObj.cells [.int .i64 p, .int .i64 s] ⟨false, 0⟩] = M0 at g0 s0 l0 ⊢
  have y0 : M0.ld M.length 0 = some (.int .i64 p) := g0.ld 0
  have y1 : M0.ld M.length 1 = some (.int .i64 s) := g0.ld 1
  obtain ⟨_, k⟩ := right_spec p s
  have c1 : (0 : Int) ≤ s ∧ s ≤ s ∧ s ≤ 140737488355328 ∧ s * 8 ≤ 140737488355328 := by omega
  have c2 : (0 : Int) ≤ p ∧ p ≤ p ∧ p ≤ 140737488355328 ∧ p * 24 ≤ 140737488355328 := by omega
  rw [bLI y0, bLI y1, bX k, bB, decide_eq_true hr, ifNT, ifDn (by omega), ifDn (by omega), bLI y1, if_pos c1]
  have g1 := cells_new M0 (List.replicate (Int.toNat s) (.int .u64 0)) 0
  have s1 := same_app M0 [AObj.cells (List.replicate (Int.toNat s) (.int .u64 0)) ⟨false, 0⟩]
  have l1 : (M0 ++ [AObj.cells (List.replicate (Int.toNat s) (.int .u64 0)) ⟨false, 0⟩]).length = M0.length + 1 := by simp
  have g01 := g0.same s1 (by simp)
  generalize M0 ++ [AObj.cells (List.replicate (Int.toNat s) (.int .u64 0)) ⟨false, 0⟩] = M1 at g1 s1 l1 g01 ⊢
  have y11 : M1.ld M.length 1 = some (.int .i64 s) := g01.ld 1
  rw [bLI y11, if_pos c1]
  have g2 := cells_new M1 (List.replicate (Int.toNat s) (.int .u64 0)) 0
  have s2 := same_app M1 [AObj.cells (List.replicate (Int.toNat s) (.int .u64 0)) ⟨false, 0⟩]
  have l2 : (M1 ++ [AObj.cells (List.replicate (Int.toNat s) (.int .u64 0)) ⟨false, 0⟩]).length = M1.length + 1 := by simp
  have g02 := g01.same s2 (by simp)
  have g12 := g1.same s2 (by simp)
  generalize M1 ++ [AObj.cells (List.replicate (Int.toNat s) (.int .u64 0)) ⟨false, 0⟩] = M2 at g2 s2 l2 g02 g12 ⊢
  have y20 : M2.ld M.length 0 = some (.int .i64 p) := g02.ld 0
  rw [bLI y20, if_pos c2]
  have g3 := cells_new M2 ((List.replicate (Int.toNat p) [Value.int .u64 0, .int .u64 0, .int .u64 0]).flatten) 0
  have s3 := same_app M2 [AObj.cells ((List.replicate (Int.toNat p) [Value.int .u64 0, .int .u64 0, .int .u64 0]).flatten) ⟨false, 0⟩]
  have l3 : (M2 ++ [AObj.cells ((List.replicate (Int.toNat p) [Value.int .u64 0, .int .u64 0, .int .u64 0]).flatten) ⟨false, 0⟩]).length = M2.length + 1 := by simp
  have g03 := g02.same s3 (by simp)
  have g13 := g12.same s3 (by simp)
  have g23 := g2.same s3 (by simp)
  generalize M2 ++ [AObj.cells ((List.replicate (Int.toNat p) [Value.int .u64 0, .int .u64 0, .int .u64 0]).flatten) ⟨false, 0⟩] = M3 at g3 s3 l3 g03 g13 g23 ⊢
  have y30 : M3.ld M.length 0 = some (.int .i64 p) := g03.ld 0
  have y31 : M3.ld M.length 1 = some (.int .i64 s) := g03.ld 1
  rw [bLI y30, bLI y31, bLI y31, if_pos ⟨c1, rfl, rfl⟩, bLI y31, if_pos ⟨c1, rfl, rfl⟩, bLI y30, if_pos ⟨c2, rfl, rfl⟩]
  have g4 := cells_new M3 [.int .i64 p, .int .i64 s, .int .i64 t, .int .i64 0, .int .i64 0, .slice (some ⟨M0.length, 0, none⟩) (Int.toNat s) 1, .slice (some ⟨M1.length, 0, none⟩) (Int.toNat s) 1, .slice (some ⟨M2.length, 0, none⟩) (Int.toNat p) 3, .int .i64 0, .bool false] 0
  have s4 := same_app M3 [AObj.cells [.int .i64 p, .int .i64 s, .int .i64 t, .int .i64 0, .int .i64 0, .slice (some ⟨M0.length, 0, none⟩) (Int.toNat s) 1, .slice (some ⟨M1.length, 0, none⟩) (Int.toNat s) 1, .slice (some ⟨M2.length, 0, none⟩) (Int.toNat p) 3, .int .i64 0, .bool false] ⟨false, 0⟩]
  have hrep : ∀ n : Nat, List.replicate n (Value.int .u64 0) = ints .u64 (List.replicate n 0) := fun n => by simp [ints]
  have h3f : ∀ n : Nat, (List.replicate n [Value.int .u64 0, .int .u64 0, .int .u64 0]).flatten = ints .u64 (List.replicate (3 * n) 0) := fun n => by
    induction n with
    | zero => rfl
    | succ n ih =>
      rw [List.replicate_succ, List.flatten_cons, ih, show 3 * (n + 1) = 3 * n + 1 + 1 + 1 by omega, List.replicate_succ, List.replicate_succ, List.replicate_succ]
      rfl
  have ep : ((p.toNat : Nat) : Int) = p := by omega
  have es : ((s.toNat : Nat) : Int) = s := by omega
  have et : ((t.toNat : Nat) : Int) = t := by omega
  rw [hrep] at g13 g23
  rw [h3f] at g3
  refine ⟨_, M3.length, M0.length, M1.length, M2.length, rfl, ⟨?_, ?_, ?_, ?_, by omega, by show Rt ((p.toNat : Nat) : Int) ((s.toNat : Nat) : Int); rw [ep, es]; exact hr, by show 1 ≤ t.toNat ∧ t.toNat ≤ 1000; omega, ⟨Nat.zero_le _, fun _ => by show 0 < t.toNat; omega⟩, by simp [pkNew, PK.all], fun _ => by show 0 < 2 * s.toNat + 3 * p.toNat; omega⟩, ((((s0.trans s1).trans s2).trans s3).trans s4).mono (by simp), by simp; omega⟩
  · show Cells _ _ [.int .i64 ((p.toNat : Nat) : Int), .int .i64 ((s.toNat : Nat) : Int), .int .i64 ((t.toNat : Nat) : Int), _, _, _, _, _, _, _]
    rw [ep, es, et]
    exact g4
  · have : (pkNew p s t).arr.take (pkNew p s t).s = List.replicate s.toNat 0 := by simp [pkNew]; omega
    rw [this]; exact g13.same s4 (by simp)
  · have : ((pkNew p s t).arr.drop (pkNew p s t).s).take (3 * (pkNew p s t).p) = List.replicate (3 * p.toNat) 0 := by show ((List.replicate (2 * s.toNat + 3 * p.toNat) (0 : Int)).drop s.toNat).take (3 * p.toNat) = _; rw [List.drop_replicate, List.take_replicate]; congr 1; omega
    rw [this]; exact g3.same s4 (by simp)
  · have : (pkNew p s t).arr.drop ((pkNew p s t).s + 3 * (pkNew p s t).p) = List.replicate s.toNat 0 := by show (List.replicate (2 * s.toNat + 3 * p.toNat) (0 : Int)).drop (s.toNat + 3 * p.toNat) = _; rw [List.drop_replicate]; congr 1; omega
    rw [this]; exact g23.same s4 (by simp)

theorem pnew_not {p s t : Int} (M : AMem) (h : ¬ (Rt p s ∧ 1 ≤ t ∧ t ≤ 1000)) : ∃ M', LL.call 11 [lay p s, .int .i64 t] M = some (.pointer none, M') ∧ Same M M' [] := by
  rw [L_call11, E11]
  have g0 := cells_new M [.int .i64 p, .int .i64 s] 0
  have s0 := same_app M [AObj.cells [.int .i64 p, .int .i64 s] ⟨false, 0⟩]
  generalize M ++ [AObj.cells [.int .i64 p, .int .i64 s] ⟨false, 0⟩] = M0 at g0 s0 ⊢
  have y0 : M0.ld M.length 0 = some (.int .i64 p) := g0.ld 0
  have y1 : M0.ld M.length 1 = some (.int .i64 s) := g0.ld 1
  obtain ⟨_, k⟩ := right_spec p s
  rw [bLI y0, bLI y1, bX k, bB]
  by_cases hr : Rt p s
  · rw [decide_eq_true hr, ifNT]
    by_cases h1 : t < 1
    · rw [ifD h1]; exact ⟨M0, rfl, s0⟩
    · have h2 : t > 1000 := by
        by_cases h2 : t > 1000
        · exact h2
        · exact absurd ⟨hr, by omega, by omega⟩ h
      rw [ifDn h1, ifD h2]; exact ⟨M0, rfl, s0⟩
  · rw [decide_eq_false hr, ifNF]; exact ⟨M0, rfl, s0⟩

/-! ### films that are one -/

theorem film3 {M : AMem} {a n i : Nat} {F : List Int} (h : Rd M a (ints .u64 F)) (hl : F.length = 3 * n) (hi : i < n) :
    M.ld a (i * 3) = some (.int .u64 (F.getD (i * 3) 0)) ∧ M.ld a (i * 3 + 1) = some (.int .u64 (F.getD (i * 3 + 1) 0)) ∧ M.ld a (i * 3 + 2) = some (.int .u64 (F.getD (i * 3 + 2) 0)) :=
  ⟨by rw [h.ld, ints_nat (by omega)], by rw [h.ld, ints_nat (by omega)], by rw [h.ld, ints_nat (by omega)]⟩

theorem drop3 {F : List Int} {i : Nat} (h : i * 3 + 3 ≤ F.length) : F.drop (i * 3) = F.getD (i * 3) 0 :: F.getD (i * 3 + 1) 0 :: F.getD (i * 3 + 2) 0 :: F.drop ((i + 1) * 3) := by
  have d : ∀ k, k < F.length → F.drop k = F.getD k 0 :: F.drop (k + 1) := fun k hk => by
    rw [List.drop_eq_getElem_cons hk, List.getD_eq_getElem?_getD, List.getElem?_eq_getElem hk]; rfl
  rw [d _ (by omega), d (i * 3 + 1) (by omega), d (i * 3 + 1 + 1) (by omega), show (i + 1) * 3 = i * 3 + 1 + 1 + 1 by omega]

theorem same34_loop {M : AMem} {p q : Option Addr} {n c d : Nat} {F G : List Int} (hp : RdF M p n F) (hq : RdF M q n G) (hn : n ≤ 1000000) : ∀ (k i : Nat), i + k = n →
    P29_14 LL p n c q n d i M = some (.bool (decide (F.drop (i * 3) = G.drop (i * 3))), M) := by
  intro k
  induction k with
  | zero =>
    intro i hi
    obtain rfl : i = n := by omega
    have h1 : F.drop (i * 3) = [] := List.drop_eq_nil_of_le (by have := hp.1; omega)
    have h2 : G.drop (i * 3) = [] := List.drop_eq_nil_of_le (by have := hq.1; omega)
    rw [P29_14_eq LL L_loop, ifDn (by rw [ofN]; omega), P29_31_eq, h1, h2, decide_eq_true rfl]
  | succ k ih =>
    intro i hi
    obtain ⟨a, rfl, ha⟩ := hp.2 (by omega)
    obtain ⟨b, rfl, hb⟩ := hq.2 (by omega)
    have l1 := hp.1
    have l2 := hq.1
    have hg : (0 : Int) ≤ (i : Int) ∧ (i : Int) < Int.ofNat n := by rw [ofN]; omega
    have hw : IntKind.wrap .i64 ((i : Int) + 1) = ((i + 1 : Nat) : Int) := by rw [w64 (by omega)]; rfl
    obtain ⟨a0, a1, a2⟩ := film3 ha l1 (i := i) (by omega)
    obtain ⟨b0, b1, b2⟩ := film3 hb l2 (i := i) (by omega)
    rw [P29_14_eq LL L_loop, ifD hg.2]
    simp only [↓if_pos hg, Nat.zero_add, Int.toNat_natCast, ↓bLI a0, ↓bLI a1, ↓bLI a2, ↓bLI b0, ↓bLI b1, ↓bLI b2]
    rw [drop3 (F := F) (i := i) (by omega), drop3 (F := G) (i := i) (by omega)]
    generalize F.getD (i * 3) 0 = x0
    generalize F.getD (i * 3 + 1) 0 = x1
    generalize F.getD (i * 3 + 2) 0 = x2
    generalize G.getD (i * 3) 0 = z0
    generalize G.getD (i * 3 + 1) 0 = z1
    generalize G.getD (i * 3 + 2) 0 = z2
    by_cases e : x0 = z0 ∧ x1 = z1 ∧ x2 = z2
    · obtain ⟨rfl, rfl, rfl⟩ := e
      rw [show (!((x0 == x0) && ((x1 == x1) && (x2 == x2)))) = false by simp, ifF, P29_30_eq, hw, ih (i + 1) (by omega)]
      simp
    · have : (!((x0 == z0) && ((x1 == z1) && (x2 == z2)))) = true := by
        simp only [Bool.not_eq_true', Bool.and_eq_false_iff, beq_eq_false_iff_ne]
        by_cases e0 : x0 = z0
        · by_cases e1 : x1 = z1
          · exact .inr (.inr fun e2 => e ⟨e0, e1, e2⟩)
          · exact .inr (.inl e1)
        · exact .inl e0
      rw [this, ifT]
      congr 3
      symm
      exact decide_eq_false fun h => e (by
        obtain ⟨e0, h⟩ := List.cons.inj h
        obtain ⟨e1, h⟩ := List.cons.inj h
        exact ⟨e0, e1, (List.cons.inj h).1⟩)

theorem same34_spec {M : AMem} {p q : Option Addr} {n m c d : Nat} {F G : List Int} (hp : RdF M p n F) (hq : RdF M q m G) (hn : n ≤ 1000000) :
    LL.call 29 [.slice p n c, .slice q m d] M = some (.bool (decide (F = G)), M) := by
  rw [L_call29, E29]
  by_cases e : n = m
  · subst e
    have := same34_loop (c := c) (d := d) hp hq hn n 0 (by omega)
    simp only [Nat.zero_mul, List.drop_zero] at this
    simp only [bne_self_eq_false, Bool.false_eq_true, if_false]
    exact this
  · have h1 : (Int.ofNat n != Int.ofNat m) = true := by
      simp only [bne_iff_ne, ne_eq]
      intro h
      exact e (Int.ofNat.inj h)
    simp only [h1, if_true]
    congr 3
    symm
    exact decide_eq_false fun h => e (by have := hp.1; have := hq.1; rw [h] at *; omega)

end Go.Proofs.Ytpnknolehckfhaa
