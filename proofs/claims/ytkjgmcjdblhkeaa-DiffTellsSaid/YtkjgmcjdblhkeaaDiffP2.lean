/- diff.Where and diff.Apply. -/
import Derived.Test.YtkjgmcjdblhkeaaDiffP
import Derived.Test.YtkjgmcjdblhkeaaAxD
set_option linter.unusedVariables false
set_option linter.unusedSimpArgs false
namespace Go.Proofs.Ytkjgmcjdblhkeaa
open Go Go.Ax

theorem px_beq (x y : Px) : ((x.r == y.r) && ((x.g == y.g) && (x.b == y.b))) = decide (x = y) := by
  rcases x with ⟨a, b, c⟩
  rcases y with ⟨d, e, f⟩
  by_cases h1 : a = d <;> by_cases h2 : b = e <;> by_cases h3 : c = f <;> simp [h1, h2, h3]

theorem whL_snoc (x y : Px) : ∀ (i : Nat) (l k : List Px), l.length = k.length → whL i (l ++ [x]) (k ++ [y]) = whL i l k ++ if x = y then [] else [((i + l.length : Nat) : Int)]
  | i, [], [], _ => by simp only [List.nil_append, whL, List.length_nil, Nat.add_zero]
  | _, [], _ :: _, h => by simp at h
  | _, _ :: _, [], h => by simp at h
  | i, a :: l, b :: k, h => by
    simp only [List.cons_append, whL, whL_snoc x y (i + 1) l k (by simpa using h), List.length_cons]
    rw [show i + 1 + l.length = i + (l.length + 1) by omega]
    split <;> simp

structure WhI (M0 : AMem) (l x5 c2 : Nat) (u : Value) (Wb Hb : Int) (p q : Option Addr) (cq : Nat) (la lb : List Px) (i : Nat) (M : AMem) : Prop where
  lp : M[l]? = some (.loop (lo9_16 .ready none 0 x5 u))
  out : ∃ o c, Cells M x5 [.slice o (whL 0 (la.take i) (lb.take i)).length c] ∧ Slc M 1 o (whL 0 (la.take i) (lb.take i)).length c (ints .i64 (whL 0 (la.take i) (lb.take i))) ∧ (∀ b ∈ blk o, l < b)
  b2 : Rd M c2 [.int .i64 Wb, .int .i64 Hb, .slice q lb.length cq]
  r1 : RdL M encP p la.length la
  r2 : RdL M encP q lb.length lb
  same : Same M0 M [x5, l]
  le : M0.length = l + 1

theorem WhI.st {M0 : AMem} {l x5 c2 : Nat} {u : Value} {Wb Hb : Int} {p q : Option Addr} {cq : Nat} {la lb : List Px} {i : Nat} {M M' : AMem} (h : WhI M0 l x5 c2 u Wb Hb p q cq la lb i M) (s : Same M M' []) : WhI M0 l x5 c2 u Wb Hb p q cq la lb i M' := by
  obtain ⟨o, c, h1, h2, h3⟩ := h.out
  exact ⟨s.at h.lp (by simp), ⟨o, c, h1.same s (by simp), h2.same s (by simp), h3⟩, h.b2.same s (by simp), h.r1.same s (by simp), h.r2.same s (by simp), (h.same.trans s).mono (by simp), h.le⟩

theorem wh_step {M0 : AMem} {l x5 c2 : Nat} {u : Value} {Wb Hb : Int} {p q : Option Addr} {cq : Nat} {la lb : List Px} (hn : la.length = lb.length) (hl : la.length ≤ 65536)
    (d1 : x5 < l) (d2 : c2 ≠ x5 ∧ c2 < l) (d3 : ∀ b ∈ blk p, b ≠ x5 ∧ b < l) (d4 : ∀ b ∈ blk q, b ≠ x5 ∧ b < l) {i : Nat} {x y : Px} {M : AMem} (hI : WhI M0 l x5 c2 u Wb Hb p q cq la lb i M) (hx : la[i]? = some x) (hy : lb[i]? = some y) :
    ∃ M', LL.round l [.int .i64 (i : Int), pairV x y] M = some (.bool true, M') ∧ WhI M0 l x5 c2 u Wb Hb p q cq la lb (i + 1) M' := by
  have hil : i < la.length := (List.getElem?_eq_some_iff.1 hx).1
  obtain ⟨M1, w1, w2, w3, w4⟩ := wr_new M [.int .i64 0, .int .i64 0, .int .i64 0, .int .i64 0, .int .i64 0, .int .i64 0] [.int .i64 x.r, .int .i64 x.g, .int .i64 x.b, .int .i64 y.r, .int .i64 y.g, .int .i64 y.b] 0 rfl
  have h1 := hI.st w3
  have hlM := lt_of_get hI.lp
  unfold pairV
  rw [R9_16 LL L_round l 0 x5 u _ _ _ _ _ _ _ M none hI.lp M1 w1 h1.lp, P9_16_eq]
  have s2 := same_set M1 l (.loop (lo9_16 .busy none 0 x5 u))
  have lp2 : (M1.set l (.loop (lo9_16 .busy none 0 x5 u)))[l]? = some (.loop (lo9_16 .busy none 0 x5 u)) := get_set_self h1.lp
  generalize hM2 : M1.set l (.loop (lo9_16 .busy none 0 x5 u)) = M2 at s2 lp2
  have z2 := w2.same s2 (by simp; omega)
  obtain ⟨o, c, o1, o2, o3⟩ := h1.out
  have tk : whL 0 (la.take (i + 1)) (lb.take (i + 1)) = whL 0 (la.take i) (lb.take i) ++ if x = y then [] else [((i : Nat) : Int)] := by
    rw [take_snoc hx, take_snoc hy, whL_snoc x y 0 _ _ (by simp [hn])]
    simp [Nat.min_eq_left (Nat.le_of_lt hil)]
  have z0 : AMem.ld M2 M.length 0 = some (.int .i64 x.r) := z2.ld 0
  have z1 : AMem.ld M2 M.length 1 = some (.int .i64 x.g) := z2.ld 1
  have z2' : AMem.ld M2 M.length 2 = some (.int .i64 x.b) := z2.ld 2
  have z3 : AMem.ld M2 M.length 3 = some (.int .i64 y.r) := z2.ld 3
  have z4 : AMem.ld M2 M.length 4 = some (.int .i64 y.g) := z2.ld 4
  have z5 : AMem.ld M2 M.length 5 = some (.int .i64 y.b) := z2.ld 5
  simp only [z0, z1, z2', z3, z4, z5, intOf_int, Option.bind_some, px_beq]
  have o1' := o1.same s2 (by simp; omega)
  have o2' := o2.same s2 (fun b hb => by have := o3 b hb; simp; omega)
  by_cases e : x = y
  · simp only [e, decide_true, Bool.not_true, Bool.false_eq_true, if_false]
    have s3 := same_set M2 l (.loop (lo9_16 .ready none 0 x5 u))
    have hall : Same M1 (M2.set l (.loop (lo9_16 .ready none 0 x5 u))) [l] := (s2.trans s3).mono (by simp)
    refine ⟨_, roundK_normal lp2, get_set_self lp2, ⟨o, c, ?_, ?_, o3⟩, h1.b2.same hall (by simp; omega), h1.r1.same hall (fun b hb => by have := d3 b hb; simp; omega), h1.r2.same hall (fun b hb => by have := d4 b hb; simp; omega), (h1.same.trans hall).mono (by simp), h1.le⟩
    · rw [tk, if_pos e, List.append_nil]
      exact o1.same hall (by simp; omega)
    · rw [tk, if_pos e, List.append_nil]
      exact o2.same hall (fun b hb => by have := o3 b hb; simp; omega)
  · have hwl : (whL 0 (la.take i) (lb.take i)).length ≤ 65536 := by
      have := whL_length 0 (la.take i) (lb.take i)
      simp at this; omega
    obtain ⟨M3, k1, k2, k3⟩ := grn_row (bytes := 8) (new := [.int .i64 (i : Int)]) (m := 1) (v := 0) o2' rfl (by omega) (by omega)
    have hrow := rowOf_new M2 1 1 [.int .i64 (i : Int)] 0 1 rfl
    have o1'' := o1'.same k3.same (fun hb => by have := o3 _ hb; omega)
    obtain ⟨M4, p1, p2, p3, p4⟩ := o1''.wr (o := 0) (vs := [.slice (some ⟨List.length M2 + 1, 0, none⟩) ((whL 0 (la.take i) (lb.take i)).length + 1) 1]) (by simp)
    simp only [wrL, List.set_cons_zero] at p2
    have lp4 : M4[l]? = some (.loop (lo9_16 .busy none 0 x5 u)) := p3.at (k3.same.at lp2 (fun hb => by have := o3 _ hb; omega)) (by simp; omega)
    have s5 := same_set M4 l (.loop (lo9_16 .ready none 0 x5 u))
    have l2 : List.length M2 = M1.length := by rw [← hM2]; simp
    have hall : Same M1 (M4.set l (.loop (lo9_16 .ready none 0 x5 u))) (x5 :: l :: blk o) := (((s2.trans k3.same).trans p3).trans s5).mono (by
      intro b hb; simp at hb ⊢; rcases hb with h | h | h | h <;> simp [h])
    have hM0 := h1.same.le
    have hlM0 := h1.le
    refine ⟨M4.set l (.loop (lo9_16 .ready none 0 x5 u)), ?_, get_set_self lp4, ⟨some ⟨List.length M2 + 1, 0, none⟩, 1, ?_, ?_, ?_⟩, h1.b2.same hall ?_, h1.r1.same hall ?_, h1.r2.same hall ?_, ?_, h1.le⟩
    · have oo : AMem.ld M2 x5 0 = some (.slice o (whL 0 (la.take i) (lb.take i)).length c) := o1'.ld 0
      simp only [e, decide_false, Bool.not_false, if_true, oo, sliceOf_slice, Option.bind_some, hrow, k1, p1]
      exact roundK_normal lp4
    · rw [tk, if_neg e, List.length_append, List.length_singleton]
      exact p2.same s5 (by simp; omega)
    · rw [tk, if_neg e, List.length_append, List.length_singleton]
      have := (k2.same p3 (by have := o1'.lt; simp; omega)).same s5 (by simp; omega)
      simpa [ints] using this
    · simp; omega
    · simp only [List.mem_cons, not_or]
      exact ⟨d2.1, by omega, fun hb => by have := o3 _ hb; omega⟩
    · intro b hb
      have := d3 b hb
      simp only [List.mem_cons, not_or]
      exact ⟨this.1, by omega, fun hb' => by have := o3 _ hb'; omega⟩
    · intro b hb
      have := d4 b hb
      simp only [List.mem_cons, not_or]
      exact ⟨this.1, by omega, fun hb' => by have := o3 _ hb'; omega⟩
    · refine ⟨Nat.le_trans hM0 hall.le, fun b hb hn => ?_⟩
      by_cases hbo : b ∈ blk o
      · have := o3 b hbo; omega
      · simp only [List.mem_cons, not_or, List.not_mem_nil] at hn
        rw [hall.get b (by omega) (by simp only [List.mem_cons, not_or]; exact ⟨hn.1, hn.2.1, hbo⟩), h1.same.get b hb (by simp; exact ⟨hn.1, hn.2.1⟩)]


theorem where_spec {Wa Ha Wb Hb : Int} {p q : Option Addr} {c d : Nat} {la lb : List Px} (hla : la.length ≤ 9223372036854775807) (hlb : lb.length ≤ 9223372036854775807) {M : AMem} (hp : RdL M encP p la.length la) (hq : RdL M encP q lb.length lb) :
    ∃ M' o oc, LL.call 9 [picV Wa Ha p la.length c, picV Wb Hb q lb.length d] M = some (.slice o (if Fit2 Wa Ha Wb Hb la lb then whL 0 la lb else []).length oc, M') ∧
      Slc M' 1 o (if Fit2 Wa Ha Wb Hb la lb then whL 0 la lb else []).length oc (ints .i64 (if Fit2 Wa Ha Wb Hb la lb then whL 0 la lb else [])) ∧ Same M M' [] ∧ ∀ b ∈ blk o, M.length ≤ b := by
  rw [L_call9]
  unfold picV
  rw [E9]
  have g0 := cells_new M [.int .i64 Wa, .int .i64 Ha, .slice p la.length c] 0
  have s0 := same_app M [AObj.cells [.int .i64 Wa, .int .i64 Ha, .slice p la.length c] ⟨false, 0⟩]
  have n0 : (M ++ [AObj.cells [.int .i64 Wa, .int .i64 Ha, .slice p la.length c] ⟨false, 0⟩]).length = M.length + 1 := by simp
  generalize hM0 : M ++ [AObj.cells [.int .i64 Wa, .int .i64 Ha, .slice p la.length c] ⟨false, 0⟩] = M0 at g0 s0 n0
  have g1 := cells_new M0 [.int .i64 Wb, .int .i64 Hb, .slice q lb.length d] 0
  have s1 := same_app M0 [AObj.cells [.int .i64 Wb, .int .i64 Hb, .slice q lb.length d] ⟨false, 0⟩]
  have n1 : (M0 ++ [AObj.cells [.int .i64 Wb, .int .i64 Hb, .slice q lb.length d] ⟨false, 0⟩]).length = M0.length + 1 := by simp
  generalize hM1 : M0 ++ [AObj.cells [.int .i64 Wb, .int .i64 Hb, .slice q lb.length d] ⟨false, 0⟩] = M2 at g1 s1 n1
  have hs : Same M M2 [] := (s0.trans s1).mono (by simp)
  have g0' := g0.same s1 (by simp)
  obtain ⟨M3, e3, s3⟩ := fit_spec (Wa := Wa) (Ha := Ha) (Wb := Wb) (Hb := Hb) (c := c) (d := d) hla hlb (hp.same hs (by simp)) (hq.same hs (by simp))
  unfold picV at e3
  have hs3 : Same M M3 [] := (hs.trans s3).mono (by simp)
  have a0 : AMem.ld M2 M.length 0 = some (.int .i64 Wa) := g0'.ld 0
  have a1 : AMem.ld M2 M.length 1 = some (.int .i64 Ha) := g0'.ld 1
  have a2 : AMem.ld M2 M.length 2 = some (.slice p la.length c) := g0'.ld 2
  have b0 : AMem.ld M2 M0.length 0 = some (.int .i64 Wb) := g1.ld 0
  have b1 : AMem.ld M2 M0.length 1 = some (.int .i64 Hb) := g1.ld 1
  have b2 : AMem.ld M2 M0.length 2 = some (.slice q lb.length d) := g1.ld 2
  simp only [a0, a1, a2, b0, b1, b2, intOf_int, sliceOf_slice, Option.bind_some, e3, boolOf_bool]
  by_cases hf : Fit2 Wa Ha Wb Hb la lb
  · simp only [hf, decide_true, Bool.not_true, Bool.false_eq_true, if_false, if_true]
    have hn := hf.len
    have hle := hf.2.1.len
    have g4 := cells_new M3 [.slice none 0 0] 0
    have s4 := same_app M3 [AObj.cells [.slice none 0 0] ⟨false, 0⟩]
    have n4 : (M3 ++ [AObj.cells [.slice none 0 0] ⟨false, 0⟩]).length = M3.length + 1 := by simp
    generalize hM4 : M3 ++ [AObj.cells [.slice none 0 0] ⟨false, 0⟩] = M4 at g4 s4 n4
    have g0'' := (g0'.same s3 (by simp)).same s4 (by simp)
    have g1'' := (g1.same s3 (by simp)).same s4 (by simp)
    have a0 : AMem.ld M4 M.length 0 = some (.int .i64 Wa) := g0''.ld 0
    have a1 : AMem.ld M4 M.length 1 = some (.int .i64 Ha) := g0''.ld 1
    have a2 : AMem.ld M4 M.length 2 = some (.slice p la.length c) := g0''.ld 2
    have b0 : AMem.ld M4 M0.length 0 = some (.int .i64 Wb) := g1''.ld 0
    have b1 : AMem.ld M4 M0.length 1 = some (.int .i64 Hb) := g1''.ld 1
    have b2 : AMem.ld M4 M0.length 2 = some (.slice q lb.length d) := g1''.ld 2
    simp only [a0, a1, a2, b0, b1, b2, intOf_int, sliceOf_slice, Option.bind_some]
    rw [L_call21, E21]
    have g5 := cells_new M4 [.int .i64 Wa, .int .i64 Ha, .slice p la.length c] 0
    have s5 := same_app M4 [AObj.cells [.int .i64 Wa, .int .i64 Ha, .slice p la.length c] ⟨false, 0⟩]
    have n5 : (M4 ++ [AObj.cells [.int .i64 Wa, .int .i64 Ha, .slice p la.length c] ⟨false, 0⟩]).length = M4.length + 1 := by simp
    generalize hM5 : M4 ++ [AObj.cells [.int .i64 Wa, .int .i64 Ha, .slice p la.length c] ⟨false, 0⟩] = M5 at g5 s5 n5
    have g6 := cells_new M5 [.int .i64 Wb, .int .i64 Hb, .slice q lb.length d] 0
    have s6 := same_app M5 [AObj.cells [.int .i64 Wb, .int .i64 Hb, .slice q lb.length d] ⟨false, 0⟩]
    have n6 : (M5 ++ [AObj.cells [.int .i64 Wb, .int .i64 Hb, .slice q lb.length d] ⟨false, 0⟩]).length = M5.length + 1 := by simp
    generalize hM6 : M5 ++ [AObj.cells [.int .i64 Wb, .int .i64 Hb, .slice q lb.length d] ⟨false, 0⟩] = M6 at g6 s6 n6
    simp only [Option.bind_some, anyOf?, leafV, if_true, funK_func, List.nil_append, List.cons_append]
    generalize hu : (Value.func (.func 28) #[] #[.pointer (some ⟨M4.length, 0, none⟩), .pointer (some ⟨M5.length, 0, none⟩)]) = u
    have s7 := same_app M6 [AObj.loop (lo9_16 .ready none 0 M3.length u)]
    have n7 : (M6 ++ [AObj.loop (lo9_16 .ready none 0 M3.length u)]).length = M6.length + 1 := by simp
    have lp7 : (M6 ++ [AObj.loop (lo9_16 .ready none 0 M3.length u)])[M6.length]? = some (.loop (lo9_16 .ready none 0 M3.length u)) := get_new _ _
    generalize hM7 : M6 ++ [AObj.loop (lo9_16 .ready none 0 M3.length u)] = M7 at s7 lp7 n7
    have l3 := s3.le
    have hs6 : Same M M6 [] := (((hs3.trans s4).trans s5).trans s6).mono (by simp)
    have hs7 : Same M M7 [] := (hs6.trans s7).mono (by simp)
    have hpl := hp.lt (by omega)
    have hql := hq.lt (by omega)
    have hI : WhI M7 M6.length M3.length M5.length u Wb Hb p q d la lb 0 M7 :=
      ⟨lp7, ⟨none, 0, by have := ((g4.same s5 (by simp)).same s6 (by simp)).same s7 (by simp); simpa [whL] using this, by simpa [whL, ints] using Slc.nil M7 1 0, by simp⟩, (g6.same s7 (by simp)).rd, hp.same hs7 (by simp), hq.same hs7 (by simp), .refl _ _, n7⟩
    obtain ⟨M8, k1, k2⟩ := pairs_loop (cp := c) hn hle.2 (fun i M' => WhI M7 M6.length M3.length M5.length u Wb Hb p q d la lb i M')
      (fun i M' h => ⟨h.b2, h.r1, h.r2⟩) (fun i M' M'' h s => h.st s)
      (fun i x y M' h hx hy => wh_step hn hle.2 (by omega) (by omega) (fun b hb => by have := hpl b hb; omega) (fun b hb => by have := hql b hb; omega) h hx hy)
      la.length 0 M7 (by omega) hI
    rw [L_call28, E28]
    have x2 : AMem.ld M7 M4.length 2 = some (.slice p la.length c) := ((g5.same s6 (by simp)).same s7 (by simp)).ld 2
    have k1' : P28_3 LL M6.length M5.length p la.length c (la.length : Int) 0 M7 = some (.tuple #[], M8) := k1
    simp only [x2, sliceOf_slice, Option.bind_some, ofN, k1']
    rw [rangeK_normal k2.lp (by simp [lo9_16]) rfl, P9_26_eq]
    have s9 := same_set M8 M6.length .dead
    obtain ⟨o, oc, o1, o2, o3⟩ := k2.out
    rw [List.take_length, hn, List.take_length] at o1 o2
    have o1' := o1.same s9 (by simp; omega)
    have v0 : AMem.ld (M8.set M6.length .dead) M3.length 0 = some (.slice o (whL 0 la lb).length oc) := o1'.ld 0
    refine ⟨M8.set M6.length .dead, o, oc, ?_, o2.same s9 (fun b hb => by have := o3 b hb; simp; omega), ?_, fun b hb => by have := o3 b hb; omega⟩
    · simp only [v0, sliceOf_slice, Option.bind_some]
    · refine ((hs7.trans k2.same).trans s9).mono' fun b hb hlt => ?_
      simp at hb
      omega
  · simp only [hf, decide_false, Bool.not_false, if_true, Bool.false_eq_true, if_false]
    exact ⟨M3, none, 0, rfl, .nil _ _ _, hs3, by simp⟩

theorem clone_spec {p : Option Addr} {c : Nat} {l : List Px} (h1 : 1 ≤ l.length ∧ l.length ≤ 65536) {M : AMem} (hp : RdL M encP p l.length l) :
    ∃ M' a, LL.call 22 [.slice p l.length c] M = some (.slice (some ⟨a, 0, none⟩) l.length 3, M') ∧ Cells M' a (l.flatMap encP) ∧ Same M M' [] ∧ M.length ≤ a := by
  rw [L_call22, E22]
  obtain ⟨a, rfl, ha⟩ := hp.2 (by omega)
  have g0 := cells_new M [] 0
  have s0 := same_app M [AObj.cells [] ⟨false, 0⟩]
  have n0 : (M ++ [AObj.cells [] ⟨false, 0⟩]).length = M.length + 1 := by simp
  generalize hM0 : M ++ [AObj.cells [] ⟨false, 0⟩] = M0 at g0 s0 n0
  have hlen : (l.flatMap encP).length = l.length * 3 := flatMap_length encP_length l
  have hrow := rowOf_some (esz := 3) (n := l.length) (c := c) (o := 0) (ha.same s0 (by simp)) (by rw [hlen]; omega)
  rw [List.drop_zero, ← hlen, List.take_length] at hrow
  obtain ⟨M1, k1, k2, k3, k4⟩ := append_own (bytes := 24) (m := l.length) (Slc.of (esz := 3) (n := 0) g0 rfl) hlen (by omega) (by omega)
  rw [Nat.zero_add] at k1 k2
  refine ⟨M1, M0.length, ?_, ?_, ?_, by omega⟩
  · simp only [Option.isNone_some, Bool.false_eq_true, if_false, hrow, Option.bind_some, k1]
  · obtain ⟨b, e, hb⟩ := k2.pos (by omega)
    cases e
    simpa using hb
  · exact (s0.trans k3).mono' (by simp)

theorem picV_ld {M : AMem} {b : Nat} {W H : Int} {p : Option Addr} {n c : Nat} (h : Rd M b [.int .i64 W, .int .i64 H, .slice p n c]) : M.ld b 0 = some (.int .i64 W) ∧ M.ld b 1 = some (.int .i64 H) ∧ M.ld b 2 = some (.slice p n c) := ⟨h.ld 0, h.ld 1, h.ld 2⟩

theorem apply_loop {x5 x6 x8 a : Nat} {w q : Option Addr} {wn wc cq : Nat} {Wa Ha Wb Hb : Int} {la lb : List Px} {lw : List Int} (hn : la.length = lb.length) (hl : 1 ≤ la.length ∧ la.length ≤ 65536) (hlw : lw.length ≤ 65536)
    (hw : wn = lw.length) (d1 : x8 ≠ a ∧ x5 ≠ a ∧ x6 ≠ a ∧ x8 ≠ x6) (d2 : ∀ b ∈ blk w, 0 < lw.length → b ≠ a) (d3 : ∀ b ∈ blk q, b ≠ a) : ∀ (d i : Nat) (M : AMem), i + d = lw.length →
    Rd M x5 [.int .i64 Wb, .int .i64 Hb, .slice q lb.length cq] → Rd M x8 [.int .i64 Wa, .int .i64 Ha, .slice (some ⟨a, 0, none⟩) la.length 3] → Cells M x6 [.int .i64 0, .int .i64 0, .slice none 0 0] → RdL M encP q lb.length lb → RdI M .i64 w lw.length lw →
    Cells M a ((apL 0 la lb (lw.take i)).flatMap encP) →
      ∃ M', P11_16 LL x5 x6 x8 w wn wc (lw.length : Int) (i : Int) M = some (.tuple #[picV Wa Ha (some ⟨a, 0, none⟩) la.length 3, .bool true], M') ∧ Cells M' a ((apL 0 la lb lw).flatMap encP) ∧ Same M M' [a, x6] := by
  subst hw
  intro d
  induction d with
  | zero =>
    intro i M hi h5 h8 h6 hq hr hc
    obtain rfl : i = lw.length := by omega
    obtain ⟨e0, e1, e2⟩ := picV_ld h8
    obtain ⟨M1, w1, w2, w3, w4⟩ := h6.wr (o := 0) (vs := [.int .i64 Wa, .int .i64 Ha, .slice (some ⟨a, 0, none⟩) la.length 3]) (by simp)
    have w2' : Cells M1 x6 [.int .i64 Wa, .int .i64 Ha, .slice (some ⟨a, 0, none⟩) la.length 3] := by simpa [wrL] using w2
    obtain ⟨f0, f1, f2⟩ := picV_ld w2'.rd
    rw [List.take_length] at hc
    refine ⟨M1, ?_, hc.same w3 (by simp; exact Ne.symm d1.2.2.1), w3.mono (by simp)⟩
    rw [P11_16_eq LL L_loop]
    simp only [Int.lt_irrefl, decide_false, Bool.false_eq_true, if_false, P11_33_eq, e0, e1, e2, intOf_int, sliceOf_slice, Option.bind_some, w1, f0, f1, f2]
    rfl
  | succ d ih =>
    intro i M hi h5 h8 h6 hq hr hc
    have hil : i < lw.length := by omega
    obtain ⟨aw, rfl, haw⟩ := hr.2 (by omega)
    obtain ⟨b, rfl, hb⟩ := hq.2 (by omega)
    obtain ⟨n, hx⟩ : ∃ n, lw[i]? = some n := ⟨_, List.getElem?_eq_getElem hil⟩
    have ew : M.ld aw i = some (.int .i64 n) := by rw [haw.ld, ints_get, hx]; rfl
    have hlt : (i : Int) < (lw.length : Int) := by omega
    have hlt1 : (i : Int) < Int.ofNat lw.length := by rw [ofN]; omega
    have hz : (0 : Int) ≤ (i : Int) := by omega
    have hw : IntKind.wrap .i64 ((i : Int) + 1) = ((i + 1 : Nat) : Int) := by rw [w64 (by omega)]; rfl
    have e5 : M.ld x5 2 = some (.slice (some ⟨b, 0, none⟩) lb.length cq) := h5.ld 2
    have e8 : M.ld x8 2 = some (.slice (some ⟨a, 0, none⟩) la.length 3) := h8.ld 2
    by_cases hin : 0 ≤ n ∧ n < (lb.length : Int)
    · obtain ⟨k, rfl⟩ : ∃ k : Nat, n = (k : Int) := ⟨n.toNat, by omega⟩
      have hk : k < lb.length := by omega
      obtain ⟨y, hy⟩ : ∃ y, lb[k]? = some y := ⟨_, List.getElem?_eq_getElem hk⟩
      obtain ⟨f0, f1, f2⟩ := px_ld hb hy
      obtain ⟨M1, w1, w2, w3, w4⟩ := part_wr encP_length hc (k := k) (by rw [apL_length 0 la lb _ hn]; omega) y
      rw [apL_step hn hy, ← take_snoc hx] at w2
      unfold encP at w1
      have d2' : aw ≠ a := d2 aw (by simp) (by omega)
      have d3' : b ≠ a := d3 b (by simp)
      obtain ⟨M', r1, r2, r3⟩ := ih (i + 1) M1 (by omega) (h5.same w3 (by simp; exact d1.2.1)) (h8.same w3 (by simp; exact d1.1)) (h6.same w3 (by simp; exact d1.2.2.1)) (hq.same w3 (by simp; exact d3')) (hr.same w3 (by simp; exact d2')) w2
      refine ⟨M', ?_, r2, (w3.trans r3).mono (by simp)⟩
      rw [P11_16_eq LL L_loop]
      have h1 : (k : Int) ≥ 0 := by omega
      have h2 : (k : Int) < Int.ofNat lb.length := by rw [ofN]; omega
      have h3 : (k : Int) < Int.ofNat la.length := by rw [ofN]; omega
      have h4 : (0 : Int) ≤ (k : Int) := by omega
      simp only [hlt, hlt1, hz, and_self, decide_true, if_true, Nat.zero_add, Int.toNat_natCast, Nat.mul_one, ew, intOf_int, Option.bind_some, h1, e5, sliceOf_slice, h2, e8, h3, h4, f0, f1, f2, w1, P11_32_eq, hw]
      exact r1
    · have hc' := hc
      rw [apL_out hn hin, ← take_snoc hx] at hc'
      obtain ⟨M', r1, r2, r3⟩ := ih (i + 1) M (by omega) h5 h8 h6 hq hr hc'
      refine ⟨M', ?_, r2, r3⟩
      rw [P11_16_eq LL L_loop]
      simp only [hlt, hlt1, hz, and_self, decide_true, if_true, Nat.zero_add, Int.toNat_natCast, Nat.mul_one, ew, intOf_int, Option.bind_some, e5, sliceOf_slice]
      by_cases h0 : n ≥ 0
      · have h2 : ¬ (n < Int.ofNat lb.length) := by rw [ofN]; omega
        simp only [h0, h2, decide_true, decide_false, Bool.false_eq_true, if_true, if_false, P11_32_eq, hw]
        exact r1
      · simp only [h0, decide_false, Bool.false_eq_true, if_false, P11_32_eq, hw]
        exact r1

/-- The picture that is told: none, where they may not be held against one another. -/
theorem apply_spec {Wa Ha Wb Hb : Int} {p q w : Option Addr} {c d wc : Nat} {la lb : List Px} {lw : List Int} (hla : la.length ≤ 9223372036854775807) (hlb : lb.length ≤ 9223372036854775807) (hlw : lw.length ≤ 65536) {M : AMem} (hp : RdL M encP p la.length la) (hq : RdL M encP q lb.length lb) (hw : RdI M .i64 w lw.length lw)  :
    (Fit2 Wa Ha Wb Hb la lb → ∃ M' a, LL.call 11 [picV Wa Ha p la.length c, .slice w lw.length wc, picV Wb Hb q lb.length d] M = some (.tuple #[picV Wa Ha (some ⟨a, 0, none⟩) la.length 3, .bool true], M') ∧ Cells M' a ((apL 0 la lb lw).flatMap encP) ∧ Same M M' [] ∧ M.length ≤ a) ∧
    (¬ Fit2 Wa Ha Wb Hb la lb → ∃ M', LL.call 11 [picV Wa Ha p la.length c, .slice w lw.length wc, picV Wb Hb q lb.length d] M = some (.tuple #[picV 0 0 none 0 0, .bool false], M') ∧ Same M M' []) := by
  rw [L_call11]
  unfold picV
  rw [E11]
  have g0 := cells_new M [.int .i64 Wa, .int .i64 Ha, .slice p la.length c] 0
  have s0 := same_app M [AObj.cells [.int .i64 Wa, .int .i64 Ha, .slice p la.length c] ⟨false, 0⟩]
  have n0 : (M ++ [AObj.cells [.int .i64 Wa, .int .i64 Ha, .slice p la.length c] ⟨false, 0⟩]).length = M.length + 1 := by simp
  generalize hM0 : M ++ [AObj.cells [.int .i64 Wa, .int .i64 Ha, .slice p la.length c] ⟨false, 0⟩] = M0 at g0 s0 n0
  have g1 := cells_new M0 [.int .i64 Wb, .int .i64 Hb, .slice q lb.length d] 0
  have s1 := same_app M0 [AObj.cells [.int .i64 Wb, .int .i64 Hb, .slice q lb.length d] ⟨false, 0⟩]
  have n1 : (M0 ++ [AObj.cells [.int .i64 Wb, .int .i64 Hb, .slice q lb.length d] ⟨false, 0⟩]).length = M0.length + 1 := by simp
  generalize hM1 : M0 ++ [AObj.cells [.int .i64 Wb, .int .i64 Hb, .slice q lb.length d] ⟨false, 0⟩] = M1 at g1 s1 n1
  have g2 := cells_new M1 [.int .i64 0, .int .i64 0, .slice none 0 0] 0
  have s2 := same_app M1 [AObj.cells [.int .i64 0, .int .i64 0, .slice none 0 0] ⟨false, 0⟩]
  have n2 : (M1 ++ [AObj.cells [.int .i64 0, .int .i64 0, .slice none 0 0] ⟨false, 0⟩]).length = M1.length + 1 := by simp
  generalize hM2 : M1 ++ [AObj.cells [.int .i64 0, .int .i64 0, .slice none 0 0] ⟨false, 0⟩] = M2 at g2 s2 n2
  have hs : Same M M2 [] := ((s0.trans s1).trans s2).mono (by simp)
  have g0' := (g0.same s1 (by simp)).same s2 (by simp)
  have g1' := g1.same s2 (by simp)
  obtain ⟨M3, e3, s3⟩ := fit_spec (Wa := Wa) (Ha := Ha) (Wb := Wb) (Hb := Hb) (c := c) (d := d) hla hlb (hp.same hs (by simp)) (hq.same hs (by simp))
  unfold picV at e3
  have hs3 : Same M M3 [] := (hs.trans s3).mono (by simp)
  obtain ⟨a0, a1, a2⟩ := picV_ld g0'.rd
  obtain ⟨b0, b1, b2⟩ := picV_ld g1'.rd
  simp only [a0, a1, a2, b0, b1, b2, intOf_int, sliceOf_slice, Option.bind_some, e3, boolOf_bool]
  refine ⟨fun hf => ?_, fun hf => ?_⟩
  · simp only [hf, decide_true, Bool.not_true, Bool.false_eq_true, if_false]
    have hn := hf.len
    have hle := hf.2.1.len
    have g4 := cells_new M3 [.int .i64 0, .int .i64 0, .slice none 0 0] 0
    have s4 := same_app M3 [AObj.cells [.int .i64 0, .int .i64 0, .slice none 0 0] ⟨false, 0⟩]
    have n4 : (M3 ++ [AObj.cells [.int .i64 0, .int .i64 0, .slice none 0 0] ⟨false, 0⟩]).length = M3.length + 1 := by simp
    generalize hM4 : M3 ++ [AObj.cells [.int .i64 0, .int .i64 0, .slice none 0 0] ⟨false, 0⟩] = M4 at g4 s4 n4
    have l3 := s3.le
    have hs4 : Same M M4 [] := (hs3.trans s4).mono (by simp)
    obtain ⟨c0, c1, c2⟩ := picV_ld ((g0'.same s3 (by simp)).same s4 (by simp)).rd
    obtain ⟨M5, a, k1, k2, k3, k4⟩ := clone_spec (c := c) hle (hp.same hs4 (by simp))
    have g4' := g4.same k3 (by simp)
    obtain ⟨M6, w1, w2, w3, w4⟩ := g4'.wr (o := 0) (vs := [.int .i64 Wa, .int .i64 Ha, .slice (some ⟨a, 0, none⟩) la.length 3]) (by simp)
    have w2' : Cells M6 M3.length [.int .i64 Wa, .int .i64 Ha, .slice (some ⟨a, 0, none⟩) la.length 3] := by simpa [wrL] using w2
    have hchk : chkOk [(1, 6), (3, 6), (8, 6)] [(8, M3.length), (3, M.length), (1, M.length)] [(6, (M4, M5))] = true := by
      simp [chkOk, List.lookup, ver_same k3 (show M3.length < M4.length by omega) (by simp), ver_same k3 (show M.length < M4.length by omega) (by simp)]
    have hs6 : Same M M6 [] := ((hs4.trans k3).trans w3).mono' (by simp; omega)
    have hpl := hq.lt (by omega)
    have g1'' := (((g1'.same s3 (by simp)).same s4 (by simp)).same k3 (by simp)).same w3 (by simp; omega)
    have g2'' := (((g2.same s3 (by simp)).same s4 (by simp)).same k3 (by simp)).same w3 (by simp; omega)
    obtain ⟨M7, r1, r2, r3⟩ := apply_loop (x6 := M1.length) (wn := lw.length) (wc := wc) hn hle hlw rfl (by omega) (fun b hb h0 => by
        obtain ⟨aw, rfl, haw⟩ := hw.2 h0
        have := haw.lt
        simp at hb; omega) (fun b hb => by have := hpl b hb; omega) lw.length 0 M6 (by omega) g1''.rd w2'.rd g2'' (hq.same hs6 (by simp)) (hw.same hs6 (by simp)) (by
        rw [List.take_zero, apL_nil 0 la lb hn]
        exact k2.same w3 (by simp; omega))
    refine ⟨M7, a, ?_, r2, (hs6.trans r3).mono' (by simp; omega), by omega⟩
    simp only [c0, c1, c2, intOf_int, sliceOf_slice, Option.bind_some, k1, w1, hchk, if_true, ofN]
    exact r1
  · simp only [hf, decide_false, Bool.not_false, if_true]
    obtain ⟨M9, w1, w2, w3, _⟩ := (g2.same s3 (by simp)).wr (o := 0) (vs := [.int .i64 0, .int .i64 0, .slice none 0 0]) (by simp)
    have w2' : Cells M9 M1.length [.int .i64 0, .int .i64 0, .slice none 0 0] := by simpa [wrL] using w2
    obtain ⟨v0, v1, v2⟩ := picV_ld w2'.rd
    refine ⟨M9, ?_, (hs3.trans w3).mono' (by simp; omega)⟩
    simp only [w1, v0, v1, v2, intOf_int, sliceOf_slice, Option.bind_some]

end Go.Proofs.Ytkjgmcjdblhkeaa
