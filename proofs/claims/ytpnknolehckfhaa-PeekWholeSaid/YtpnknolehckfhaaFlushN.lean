/- flush.New. -/
import Derived.Test.YtpnknolehckfhaaFlushP
set_option linter.unusedVariables false
set_option linter.unusedSimpArgs false
namespace Go.Proofs.Ytpnknolehckfhaa
open Go Go.Ax

structure En where
  px : Int
  w0 : Int
  w1 : Int
  w2 : Int

def encE (e : En) : List Value := [.int .i64 e.px, .int .u64 e.w0, .int .u64 e.w1, .int .u64 e.w2]
theorem encE_length (e : En) : (encE e).length = 4 := rfl

/-- What one channel adds. -/
def chAdd (S px : Int) (c : Nat) (w : Int) : List (Int × Int) := if w = 0 then [] else [(1 + 2 * S + (3 * px + c), w)]
def enAdds (S : Int) (e : En) : List (Int × Int) := chAdd S e.px 0 e.w0 ++ chAdd S e.px 1 e.w1 ++ chAdd S e.px 2 e.w2
def flAdds (S stripe : Int) (es : List En) : List (Int × Int) := (1 + stripe, 1) :: (es.flatMap (enAdds S) ++ [(1 + S + stripe, 1)])

theorem chAdd_len (S px : Int) (c : Nat) (w : Int) : (chAdd S px c w).length ≤ 1 := by unfold chAdd; split <;> simp
theorem enAdds_len (S : Int) (e : En) : (enAdds S e).length ≤ 3 := by
  have a := chAdd_len S e.px 0 e.w0
  have b := chAdd_len S e.px 1 e.w1
  have c := chAdd_len S e.px 2 e.w2
  simp only [enAdds, List.length_append]; omega
theorem esAdds_len (S : Int) : ∀ es : List En, (es.flatMap (enAdds S)).length ≤ 3 * es.length
  | [] => by simp
  | e :: es => by
    have := esAdds_len S es
    have := enAdds_len S e
    rw [List.flatMap_cons, List.length_append, List.length_cons]; omega

/-- A flush that is being made: what stays is told. -/
structure NwI (l f x9 : Nat) (u : Value) (size : Int) (M0 : AMem) (ks : List (Nat × List Value)) (A : List (Int × Int)) (M : AMem) : Prop where
  lp : M[l]? = some (.loop (lo13_39 .ready none x9 u))
  out : ∃ o c, Cells M f [.int .i64 size, .slice o A.length c, .int .i64 0, .bool false, .int .u64 0, .int .i64 0] ∧ Slc M 2 o A.length c (A.flatMap encA) ∧ (∀ b ∈ blk o, M0.length ≤ b ∧ b ≠ f ∧ b ≠ l ∧ b ≠ x9 ∧ ∀ k ∈ ks, b ≠ k.1)
  h9 : Rd M x9 [.pointer (some ⟨f, 0, none⟩)]
  kp : ∀ k ∈ ks, Rd M k.1 k.2 ∧ k.1 ≠ f ∧ k.1 ≠ l
  same : Same M0 M [f, l]
  ne : f ≠ l ∧ x9 ≠ f ∧ x9 ≠ l

theorem NwI.st {l f x9 : Nat} {u : Value} {size : Int} {M0 : AMem} {ks : List (Nat × List Value)} {A : List (Int × Int)} {M M' : AMem} (h : NwI l f x9 u size M0 ks A M) (s : Same M M' []) : NwI l f x9 u size M0 ks A M' := by
  obtain ⟨o, c, h1, h2, h3⟩ := h.out
  exact ⟨s.at h.lp (by simp), ⟨o, c, h1.same s (by simp), h2.same s (by simp), h3⟩, h.h9.same s (by simp), fun k hk => ⟨(h.kp k hk).1.same s (by simp), (h.kp k hk).2⟩, (h.same.trans s).mono (by simp), h.ne⟩

theorem NwI.add {l f x9 : Nat} {u : Value} {size : Int} {M0 : AMem} {ks : List (Nat × List Value)} {A : List (Int × Int)} {M M' : AMem} (h : NwI l f x9 u size M0 ks A M) (s : Same M M' []) {b : Nat} {cs : List Value} (hb : Rd M' b cs) (hl : M.length ≤ b) : NwI l f x9 u size M0 ((b, cs) :: ks) A M' := by
  have h' := h.st s
  obtain ⟨o, c, h1, h2, h3⟩ := h.out
  have hf := h1.lt
  have hll := lt_of_get h.lp
  have ho := h2.lt
  refine ⟨h'.lp, ⟨o, c, h1.same s (by simp), h2.same s (by simp), fun z hz => ?_⟩, h'.h9, fun k hk => ?_, h'.same, h.ne⟩
  · obtain ⟨q1, q2, q3, q4, q5⟩ := h3 z hz
    refine ⟨q1, q2, q3, q4, fun k hk => ?_⟩
    rcases List.mem_cons.1 hk with rfl | hk
    · have := ho z hz; simp only; omega
    · exact q5 k hk
  · rcases List.mem_cons.1 hk with rfl | hk
    · exact ⟨hb, by simp only; omega, by simp only; omega⟩
    · exact h'.kp k hk

theorem NwI.drop {l f x9 : Nat} {u : Value} {size : Int} {M0 : AMem} {k : Nat × List Value} {ks : List (Nat × List Value)} {A : List (Int × Int)} {M : AMem} (h : NwI l f x9 u size M0 (k :: ks) A M) : NwI l f x9 u size M0 ks A M := by
  obtain ⟨o, c, h1, h2, h3⟩ := h.out
  exact ⟨h.lp, ⟨o, c, h1, h2, fun b hb => by
    obtain ⟨q1, q2, q3, q4, q5⟩ := h3 b hb
    exact ⟨q1, q2, q3, q4, fun k hk => q5 k (by simp [hk])⟩⟩, h.h9, fun k hk => h.kp k (by simp [hk]), h.same, h.ne⟩

theorem nw_step {l f x9 : Nat} {u : Value} {size : Int} {M0 : AMem} {ks : List (Nat × List Value)} {A : List (Int × Int)} {M : AMem} (h : NwI l f x9 u size M0 ks A M) (hA : A.length ≤ 100000) (x : Int × Int) :
    ∃ M', LL.round l [.agg #[.int .i64 x.1, .int .u64 x.2]] M = some (.bool true, M') ∧ NwI l f x9 u size M0 ks (A ++ [x]) M' := by
  have s1 := same_app M [AObj.cells [.int .i64 0, .int .u64 0] ⟨false, 0⟩]
  have g1 := cells_new M [.int .i64 0, .int .u64 0] 0
  obtain ⟨M1, w1, w2, w3, w4⟩ := g1.wr (o := 0) (vs := encA x) (by simp [encA])
  unfold encA at w1 w2
  have w2' : Cells M1 M.length [.int .i64 x.1, .int .u64 x.2] := by simpa [wrL] using w2
  have t1 : Same M M1 [] := (s1.trans w3).mono' (by simp)
  have hi1 := h.st t1
  have hlM := lt_of_get h.lp
  obtain ⟨d1, d2, d3⟩ := h.ne
  rw [R13_39 LL L_round l x9 u _ _ M none h.lp M1 w1 hi1.lp, P13_39_eq]
  have s2 := same_set M1 l (.loop (lo13_39 .busy none x9 u))
  have lp2 : (M1.set l (.loop (lo13_39 .busy none x9 u)))[l]? = some (.loop (lo13_39 .busy none x9 u)) := get_set_self hi1.lp
  have l2 : (M1.set l (.loop (lo13_39 .busy none x9 u))).length = M1.length := by simp
  generalize hM2 : M1.set l (.loop (lo13_39 .busy none x9 u)) = M2 at s2 lp2 l2
  obtain ⟨o, c, o1, o2, o3⟩ := hi1.out
  have o1' := o1.same s2 (by simp; exact d1)
  have o2' := o2.same s2 (fun b hb => by simp; exact (o3 b hb).2.2.1)
  have h9' := hi1.h9.same s2 (by simp; exact d3)
  have z2 := w2'.same s2 (by simp; omega)
  have z0 : AMem.ld M2 M.length 0 = some (.int .i64 x.1) := z2.ld 0
  have z1 : AMem.ld M2 M.length 1 = some (.int .u64 x.2) := z2.ld 1
  have p9 : AMem.ld M2 x9 0 = some (.pointer (some ⟨f, 0, none⟩)) := h9'.ld 0
  have f1 : AMem.ld M2 f 1 = some (.slice o A.length c) := o1'.ld 1
  obtain ⟨M3, k1, k2, k3⟩ := grn_row (bytes := 16) (new := encA x) (m := 1) (v := 0) o2' rfl (by omega) (by omega)
  have hrow := rowOf_new M2 2 1 (encA x) 0 2 rfl
  unfold encA at k1 hrow
  have ol := o2'.lt
  have fl := o1'.lt
  have o1'' := o1'.same k3.same (fun hb => (o3 _ hb).2.1 rfl)
  obtain ⟨M4, y1, y2, y3, y4⟩ := o1''.wr (o := 1) (vs := [.slice (some ⟨List.length M2 + 1, 0, none⟩) (A.length + 1) 2]) (by simp)
  have y2' : Cells M4 f [.int .i64 size, .slice (some ⟨List.length M2 + 1, 0, none⟩) (A.length + 1) 2, .int .i64 0, .bool false, .int .u64 0, .int .i64 0] := by simpa [wrL] using y2
  have lp4 : M4[l]? = some (.loop (lo13_39 .busy none x9 u)) := y3.at (k3.same.at lp2 (fun hb => (o3 _ hb).2.2.1 rfl)) (by simp; exact Ne.symm d1)
  have s5 := same_set M4 l (.loop (lo13_39 .ready none x9 u))
  have hallM : Same M (M4.set l (.loop (lo13_39 .ready none x9 u))) (f :: l :: blk o) := ((((t1.trans s2).trans k3.same).trans y3).trans s5).mono (by
    intro b hb; simp at hb ⊢; rcases hb with h | h | h | h <;> simp [h])
  have h9l := h9'.lt
  have hM0 := h.same.le
  have sr := same_app M2 [AObj.cells [.int .i64 x.1, .int .u64 x.2] ⟨false, 0⟩]
  have q1 := t1.le
  have q2 := s2.le
  have q3 := k3.same.le
  have hchk : chkOk [(0, 6), (0, 7), (1, 6), (4, 6)] [(4, f), (1, x9), (0, x9)] [(7, (M2 ++ [AObj.cells [.int .i64 x.1, .int .u64 x.2] ⟨false, 0⟩], M3)), (6, (M2, M2 ++ [AObj.cells [.int .i64 x.1, .int .u64 x.2] ⟨false, 0⟩]))] = true := by
    have v1 := ver_same sr h9l (by simp)
    have v2 := ver_same sr fl (by simp)
    have v3 : AMem.ver M2 x9 = AMem.ver M3 x9 := ver_same k3.same h9l (fun hb => (o3 _ hb).2.2.2.1 rfl)
    have v4 : AMem.ver (M2 ++ [AObj.cells [.int .i64 x.1, .int .u64 x.2] ⟨false, 0⟩]) x9 = AMem.ver M3 x9 := by rw [← v1, v3]
    simp [chkOk, List.lookup, v1, v2, v4]
  refine ⟨M4.set l (.loop (lo13_39 .ready none x9 u)), ?_, ⟨get_set_self lp4, ⟨some ⟨List.length M2 + 1, 0, none⟩, 2, ?_, ?_, ?_⟩, ?_, ?_, ?_, h.ne⟩⟩
  · simp only [↓bLP p9, Nat.zero_add, ↓bLS f1, ↓bLI z0, ↓bLI z1, ↓bX hrow, k1, ↓bX y1, ↓if_pos hchk]
    exact roundK_normal lp4
  · rw [List.length_append, List.length_singleton]
    exact y2'.same s5 (by simp; exact d1)
  · rw [List.length_append, List.length_singleton, List.flatMap_append]
    have := (k2.same y3 (by simp; omega)).same s5 (by simp; omega)
    simpa using this
  · intro b hb
    simp at hb
    subst hb
    refine ⟨by omega, by omega, by omega, by omega, fun k hk => ?_⟩
    have := ((hi1.kp k hk).1).lt
    omega
  · exact ((h9'.same k3.same (fun hb => (o3 _ hb).2.2.2.1 rfl)).same y3 (by simp; exact d2)).same s5 (by simp; exact d3)
  · intro k hk
    obtain ⟨q1, q2, q3⟩ := hi1.kp k hk
    exact ⟨((((q1.same s2 (by simp; exact q3)).same k3.same (fun hb => (o3 _ hb).2.2.2.2 k hk rfl)).same y3 (by simp; exact q2)).same s5 (by simp; exact q3)), q2, q3⟩
  · refine (h.same.trans hallM).mono' fun b hb hlt => ?_
    simp only [List.mem_append, List.mem_cons, List.not_mem_nil, or_false] at hb ⊢
    rcases hb with (hb | hb) | hb | hb | hb
    · exact .inl hb
    · exact .inr hb
    · exact .inl hb
    · exact .inr hb
    · have := (o3 b hb).1; omega

end Go.Proofs.Ytpnknolehckfhaa
