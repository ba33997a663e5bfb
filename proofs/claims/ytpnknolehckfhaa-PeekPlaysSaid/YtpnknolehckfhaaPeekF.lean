/- PeekPlays: looks and flushes in an order. -/
import Derived.Test.YtpnknolehckfhaaPeekE
import Derived.Test.YtpnknolehckfhaaAwakeP
set_option linter.unusedVariables false
set_option linter.unusedSimpArgs false
namespace Go.Proofs.Ytpnknolehckfhaa
open Go Go.Ax

/-! ### a look, or none -/

/-- The program's look and the document's, side by side: none of either, or both. The blocks are none of D's, and from N on. -/
structure Lk1 (N : Nat) (D : Nat → Prop) (M : AMem) (b be bb bf qb : Nat) (rp : Option Addr) (rc : Nat) (x : PK) : Prop where
  pk : IsPk M b be bb bf x
  rk : IsRp M qb rp rc x
  dj : ∀ z ∈ [b, be, bb, bf, qb] ++ blk rp, N ≤ z ∧ ¬ D z
  q1 : qb ∉ [b, be, bb, bf]
  q2 : ∀ z ∈ blk rp, z ∉ [b, be, bb, bf]

def pkNone : List Value := [.int .i64 0, .int .i64 0, .int .i64 0, .int .i64 0, .slice none 0 0, .int .i64 13]

def Lk (N : Nat) (D : Nat → Prop) (M : AMem) (pp : Option Addr) (qb : Nat) (xo : Option PK) : Prop :=
  match xo with
  | none => pp = none ∧ Cells M qb pkNone ∧ N ≤ qb ∧ ¬ D qb
  | some x => ∃ b be bb bf rp rc, pp = some ⟨b, 0, none⟩ ∧ Lk1 N D M b be bb bf qb rp rc x

theorem Lk.same {N : Nat} {D : Nat → Prop} {M M' : AMem} {pp : Option Addr} {qb : Nat} {xo : Option PK} {S : List Nat} (h : Lk N D M pp qb xo) (k : Same M M' S) (hS : ∀ z ∈ S, D z) : Lk N D M' pp qb xo := by
  cases xo with
  | none => exact ⟨h.1, h.2.1.same k (fun hb => h.2.2.2 (hS _ hb)), h.2.2⟩
  | some x =>
    obtain ⟨b, be, bb, bf, rp, rc, e, h1⟩ := h
    have hn : ∀ z ∈ [b, be, bb, bf, qb] ++ blk rp, z ∉ S := fun z hz hs => (h1.dj z hz).2 (hS z hs)
    exact ⟨b, be, bb, bf, rp, rc, e, h1.pk.same k (hn b (by simp)) (hn be (by simp)) (hn bb (by simp)) (hn bf (by simp)), h1.rk.same k (hn qb (by simp)) (fun z hz => hn z (List.mem_append_right _ hz)), h1.dj, h1.q1, h1.q2⟩

def lkOver (L : List Int) (xo : Option PK) : Bool := match xo with
  | none => true
  | some x => pkOver L x
def lkT (L : List Int) (xo : Option PK) : Nat := match xo with
  | none => 0
  | some x => pkT L x

theorem pstep_nil (M : AMem) (m : Option Addr) : LL.call 17 [.pointer none, .pointer m] M = some (.bool false, M) := by
  rw [L_call17, E17, bX (given_nil M), bB, ifNF]

theorem lk_step {N : Nat} {D : Nat → Prop} {K1 : Nat} {M : AMem} {pp : Option Addr} {qb : Nat} {xo : Option PK} {mb ma mr : Nat} {p : Option Addr} {c : Nat} {L : List Int} {st wi : Nat} (h : Lk N D M pp qb xo) (hK : ∀ z, D z → z < K1) (hM : K1 ≤ M.length) (hN : N ≤ K1) (hm : IsMem M mb ma L st wi) (hr : IsRef M mr p c L st wi) (hst : st < 1000000000000000000) (hD : D mb ∧ D ma ∧ D mr ∧ ∀ z ∈ blk p, D z) (hd : mr ≠ mb ∧ mr ≠ ma ∧ ∀ z ∈ blk p, z ≠ mb ∧ z ≠ ma) :
    ∃ M1 M2 xo' S, LL.call 17 [.pointer pp, pt mb] M = some (.bool (!lkOver L xo), M1) ∧ LL.call 27 [pt qb, pt mr] M1 = some (.bool (!lkOver L xo), M2) ∧ Lk N D M2 pp qb xo' ∧
      IsMem M2 mb ma L (st + lkT L xo) wi ∧ IsRef M2 mr p c L (st + lkT L xo) wi ∧ Same M M2 (mb :: mr :: S) ∧ (∀ z ∈ S, N ≤ z ∧ ¬ D z) ∧
      (∃ dn : Bool, LL.call 15 [.pointer pp] M2 = some (.bool dn, M2) ∧ ∃ e : Int, M2.ld qb 5 = some (.int .i64 e) ∧ (e != 13) = dn) ∧
      (∃ tr : Int, LL.call 21 [.pointer pp] M2 = some (.int .i64 tr, M2) ∧ M2.ld qb 3 = some (.int .i64 tr)) := by
  cases xo with
  | none =>
    obtain ⟨rfl, hq, q1, q2⟩ := h
    have v2 : M.ld qb 2 = some (.int .i64 0) := hq.ld 2
    have v5 : M.ld qb 5 = some (.int .i64 13) := hq.ld 5
    have v3 : M.ld qb 3 = some (.int .i64 0) := hq.ld 3
    refine ⟨M, M, none, [], pstep_nil M _, ?_, ⟨rfl, hq, q1, q2⟩, hm, hr, .refl _ _, by simp, ⟨false, pdone_nil M, 13, v5, rfl⟩, ⟨0, ptries_nil M, v3⟩⟩
    rw [L_call27, E27]
    simp only [Nat.zero_add]
    rw [bLI v2]
    rfl
  | some x =>
    obtain ⟨b, be, bb, bf, rp, rc, rfl, h1⟩ := h
    have hn : ∀ z, D z → ∀ y ∈ [b, be, bb, bf, qb] ++ blk rp, y ≠ z := fun z hz y hy e => (h1.dj y hy).2 (e ▸ hz)
    obtain ⟨M1, k1, k2, k3, k4⟩ := pk_step h1.pk hm hst (fun z hz => by
      have hz' : z ∈ [b, be, bb, bf, qb] ++ blk rp := List.mem_append_left _ (by simp at hz ⊢; rcases hz with h | h | h | h <;> simp [h])
      exact ⟨hn mb hD.1 z hz', hn ma hD.2.1 z hz'⟩)
    have out : ∀ z, (D z ∧ z ≠ mb) ∨ z = qb ∨ z ∈ blk rp → z ∉ [b, be, bb, bf, mb] := fun z hz hzs => by
      simp only [List.mem_cons, List.not_mem_nil, or_false] at hzs
      rcases hz with ⟨hz, hne⟩ | rfl | hz
      · rcases hzs with rfl | rfl | rfl | rfl | rfl
        · exact hn z hz z (by simp) rfl
        · exact hn z hz z (by simp) rfl
        · exact hn z hz z (by simp) rfl
        · exact hn z hz z (by simp) rfl
        · exact hne rfl
      · have := h1.q1
        simp only [List.mem_cons, List.not_mem_nil, or_false, not_or] at this
        have := hn mb hD.1 z (by simp)
        omega
      · have := h1.q2 z hz
        simp only [List.mem_cons, List.not_mem_nil, or_false, not_or] at this
        have := hn mb hD.1 z (List.mem_append_right _ hz)
        omega
    have hr1 := hr.same k4 (out mr (.inl ⟨hD.2.2.1, hd.1⟩)) (fun z hz => out z (.inl ⟨hD.2.2.2 z hz, (hd.2.2 z hz).1⟩))
    have hrp1 := h1.rk.same k4 (out qb (.inr (.inl rfl))) (fun z hz => out z (.inr (.inr hz)))
    obtain ⟨M2, rp', rc', e1, e2, e3, e4, e5⟩ := rp_step hrp1 h1.pk.ok hr1 hst ⟨hn mr hD.2.2.1 qb (by simp), fun hz => hn qb (hD.2.2.2 qb hz) qb (by simp) rfl⟩ (fun z hz => ⟨hn mr hD.2.2.1 z (List.mem_append_right _ hz), fun hzp => hn z (hD.2.2.2 z hzp) z (List.mem_append_right _ hz) rfl⟩)
    have le1 := k4.le
    have hdr : ∀ z, z ∈ [b, be, bb, bf] → z ∉ qb :: mr :: blk rp := fun z hz hzs => by
      have hz' : z ∈ [b, be, bb, bf, qb] ++ blk rp := List.mem_append_left _ (by simp at hz ⊢; rcases hz with h | h | h | h <;> simp [h])
      rcases List.mem_cons.1 hzs with rfl | hzs
      · exact h1.q1 hz
      rcases List.mem_cons.1 hzs with rfl | hzs
      · exact hn z hD.2.2.1 z hz' rfl
      · exact h1.q2 z hzs hz
    have k2' := k2.same e4 (hdr b (by simp)) (hdr be (by simp)) (hdr bb (by simp)) (hdr bf (by simp))
    have hmm : ∀ z, D z → z ≠ mr → z ∉ qb :: mr :: blk rp := fun z hz hne hzs => by
      rcases List.mem_cons.1 hzs with rfl | hzs
      · exact hn z hz z (by simp) rfl
      rcases List.mem_cons.1 hzs with rfl | hzs
      · exact hne rfl
      · exact hn z hz z (List.mem_append_right _ hzs) rfl
    have hbl : ∀ z ∈ [b, be, bb, bf, qb] ++ blk rp', N ≤ z ∧ ¬ D z := fun z hz => by
      rcases List.mem_append.1 hz with hz | hz
      · exact h1.dj z (List.mem_append_left _ hz)
      · rcases e5 z hz with hz | hz
        · exact h1.dj z (List.mem_append_right _ hz)
        · exact ⟨by omega, fun hd => by have := hK z hd; omega⟩
    have hpl : ∀ z ∈ [b, be, bb, bf], z < M.length := fun z hz => by
      simp only [List.mem_cons, List.not_mem_nil, or_false] at hz
      rcases hz with rfl | rfl | rfl | rfl
      · exact h1.pk.hd.lt
      · exact h1.pk.ce.lt
      · exact h1.pk.cb.lt
      · exact h1.pk.cf.lt
    have hov : (pkS L x).over = true → pkE (pkS L x) = (pkS L x).en := fun h => by unfold pkE; rw [if_pos h]
    refine ⟨M1, M2, some (pkS L x), [b, be, bb, bf, qb] ++ blk rp, k1, e1, ⟨b, be, bb, bf, rp', rc', rfl, k2', e2, hbl, h1.q1, fun z hz hzb => ?_⟩, k3.same e4 (hmm mb hD.1 (Ne.symm hd.1)) (hmm ma hD.2.1 (Ne.symm hd.2.1)), e3, (k4.trans e4).mono (fun z hz => ?_), fun z hz => h1.dj z hz, ⟨_, pdone_spec k2', pkE (pkS L x), e2.hd.ld 5, ?_⟩, ⟨_, ptries_spec k2', e2.hd.ld 3⟩⟩
    · rcases e5 z hz with hz | hz
      · exact h1.q2 z hz hzb
      · have := hpl z hzb; omega
    · simp only [List.mem_append, List.mem_cons, List.not_mem_nil, or_false] at hz ⊢
      rcases hz with (h | h | h | h | h) | h | h | h <;> simp [h]
    · have he := e2.eo
      unfold EnOk at he
      unfold pkE
      cases ho : (pkS L x).over with
      | false => simp
      | true =>
        rw [if_pos ho] at he
        rw [if_pos rfl]
        rcases he with e | e <;> rw [e] <;> rfl

/-! ### all together -/

structure QI (N n K1 : Nat) (D : Nat → Prop) (M : AMem) (mb ma : Nat) (L : List Int) (st wi : Nat) (o : Option Addr) (l : List Fl) (T : Nat) (mr : Nat) (p : Option Addr) (pc : Nat) (q : Option Addr) (qc : Nat) (rs : List Rf) (pp : Option Addr) (qb : Nat) (xo : Option PK) : Prop where
  pi : PI N n M mb ma L st wi o l T mr p pc q qc rs
  lk : Lk N D M pp qb xo
  d0 : ∀ z ∈ mb :: ma :: mr :: (blk p ++ blk q ++ blk o), D z
  d1 : ∀ x ∈ l, ∀ z ∈ x.bl, D z
  d2 : ∀ x ∈ rs, D x.z
  kM : K1 ≤ M.length

theorem PI.look {N n : Nat} {M M' : AMem} {mb ma : Nat} {L : List Int} {st st' wi : Nat} {o : Option Addr} {l : List Fl} {T T' : Nat} {mr : Nat} {p : Option Addr} {pc : Nat} {q : Option Addr} {qc : Nat} {rs : List Rf} {S : List Nat} (h : PI N n M mb ma L st wi o l T mr p pc q qc rs) (hm : IsMem M' mb ma L st' wi) (hr : IsRef M' mr p pc L st' wi) (k : Same M M' S)
    (hS : ∀ z ∈ S, z ∉ blk q ∧ z ∉ blk o ∧ (∀ x ∈ l, z ∉ x.bl) ∧ ∀ x ∈ rs, z ≠ x.z) (hst : st' ≤ T') (hT : T ≤ T') : PI N n M' mb ma L st' wi o l T' mr p pc q qc rs :=
  ⟨⟨⟨hm, h.li.sys.fl.same k (fun b hb x hx => (hS b hb).2.2.1 x hx), h.li.sys.ptr.same k (fun b hb hbs => (hS b hbs).2.1 hb), h.li.sys.am, h.li.sys.ao, h.li.sys.lo⟩, h.li.good, h.li.len, hst, by have := h.li.wi; omega, fun x hx => by have := h.li.lo x hx; omega⟩,
    hr, h.sl.same k (fun b hb hbs => (hS b hbs).1 hb), fun x hx => (h.ad x hx).same k (fun hb => (hS _ hb).2.2.2 x hx rfl), h.eq, h.al, h.dis, h.qd, h.zd⟩

theorem plays34_end {N n K1 : Nat} {D : Nat → Prop} {M : AMem} {mb ma : Nat} {L : List Int} {st wi : Nat} {o : Option Addr} {l : List Fl} {T : Nat} {mr : Nat} {p : Option Addr} {pc : Nat} {q : Option Addr} {qc : Nat} {rs : List Rf} {pp : Option Addr} {qb : Nat} {xo : Option PK} {x4 : Nat} {pz sz : Int} (h : QI N n K1 D M mb ma L st wi o l T mr p pc q qc rs pp qb xo) (h4 : Rd M x4 [.int .i64 pz, .int .i64 sz]) :
    ∃ M', P4_86 LL x4 mr (some ⟨mb, 0, none⟩) pp qb M = some (.bool true, M') := by
  obtain ⟨_, aw⟩ := awake34
  have hm := h.pi.li.sys.mem
  have hr := h.pi.ref
  have hml := hr.hd.lt
  -- the two films
  have films : ∃ M1 M2 f1 c1 f2 c2 n F e, LL.call 20 [.pointer pp] M = some (.tuple #[.slice f1 n c1, .int .i64 e], M1) ∧ LL.call 28 [pt qb] M1 = some (.tuple #[.slice f2 n c2, .int .i64 e], M2) ∧ RdF M2 f1 n F ∧ RdF M2 f2 n F ∧ Same M M2 [] ∧ n ≤ 1000000 := by
    have lk := h.lk
    cases xo with
    | none =>
      obtain ⟨rfl, hq, _, _⟩ := lk
      have v0 : M.ld qb 0 = some (.int .i64 0) := hq.ld 0
      have v5 : M.ld qb 5 = some (.int .i64 13) := hq.ld 5
      refine ⟨M, M, none, 0, none, 0, 0, [], 13, pfilm_nil M, ?_, ⟨rfl, fun h => by omega⟩, ⟨rfl, fun h => by omega⟩, .refl _ _, by omega⟩
      rw [L_call28, E28, P28_8_eq LL L_loop]
      simp only [Nat.zero_add]
      rw [bLI v0, ifDn (by omega), P28_21_eq]
      simp only [Nat.zero_add]
      rw [bLI v5]
    | some x =>
      obtain ⟨b, be, bb, bf, rp, rc, rfl, h1⟩ := lk
      obtain ⟨M1, f1, c1, a1, a2, a3, a4⟩ := pfilm_spec h1.pk
      obtain ⟨M2, f2, c2, b1, b2, b3⟩ := rfilm_spec (h1.rk.same a3 (by simp) (by simp)) h1.pk.ok
      have hrt := h1.pk.rt
      exact ⟨M1, M2, f1, c1, f2, c2, _, _, _, a1, b1, a2.same b3 (by simp), b2, (a3.trans b3).mono (by simp), by obtain ⟨r1, r2, r3, r4⟩ := hrt; split <;> omega⟩
  obtain ⟨M1, M2, f1, c1, f2, c2, n', F, e, a1, a2, a3, a4, a5, a6⟩ := films
  rw [P4_86_eq, bX a1, bT2, bG0, bS, bG1, bI, bX a2, bT2, bG0, bS, bG1, bI]
  have g3 := cells_new M2 [.int .i64 0, .int .i64 0, .int .i64 0, .int .i64 0, .int .i64 0, .slice none 0 0, .slice none 0 0, .slice none 0 0, .int .i64 0, .bool false] 0
  have s3 := same_app M2 [AObj.cells [.int .i64 0, .int .i64 0, .int .i64 0, .int .i64 0, .int .i64 0, .slice none 0 0, .slice none 0 0, .slice none 0 0, .int .i64 0, .bool false] ⟨false, 0⟩]
  simp only
  generalize M2 ++ [AObj.cells [.int .i64 0, .int .i64 0, .int .i64 0, .int .i64 0, .int .i64 0, .slice none 0 0, .slice none 0 0, .slice none 0 0, .int .i64 0, .bool false] ⟨false, 0⟩] = M3 at g3 s3 ⊢
  have t3 : Same M M3 [] := (a5.trans s3).mono (by simp)
  have v2 : M3.ld M2.length 2 = some (.int .i64 0) := g3.ld 2
  have v3 : M3.ld M2.length 3 = some (.int .i64 0) := g3.ld 3
  have gv : LL.call 40 [pt M2.length] M3 = some (.bool false, M3) := by
    rw [L_call40, E40]
    simp only [Option.isNone_some, Bool.not_false, if_true, Nat.zero_add, ↓bLI v2]
    rw [decide_eq_false (by omega)]
  have dn : LL.call 15 [pt M2.length] M3 = some (.bool false, M3) := by
    rw [L_call15, E15, bX gv, bB, ifF]
  have fi : LL.call 20 [pt M2.length] M3 = some (.tuple #[.slice none 0 0, .int .i64 13], M3) := by
    rw [L_call20, E20, bX dn, bB, ifNF]
  have sp : LL.call 17 [pt M2.length, pt mb] M3 = some (.bool false, M3) := by
    rw [L_call17, E17, bX gv, bB, ifNF]
  have tr : LL.call 21 [pt M2.length] M3 = some (.int .i64 0, M3) := by
    rw [L_call21, E21]
    simp only [Option.isNone_some, Bool.false_eq_true, if_false, Nat.zero_add]
    rw [bLI v3]
  rw [bX (pfilm_nil M3), bT2, bG0, bS, bG1, bI, P4_96_eq, bX fi, bT2, bG0, bS, bG1, bI, show ((13 : Int) != 13) = false from rfl, ifF, ifF]
  rw [bX (pdone_nil M3), bB, ifF, bX dn, bB, ifF, bX sp, bB, ifF, bX (pstep_nil M3 _), bB, ifF, bX (ptries_nil M3), bI, bX tr, bI, show (IntKind.wrap .i64 (0 + 0) != 0) = false from rfl, P4_101_eq, ifF]
  have h43 := h4.same t3 (by simp)
  have y0 : M3.ld x4 0 = some (.int .i64 pz) := h43.ld 0
  have y1 : M3.ld x4 1 = some (.int .i64 sz) := h43.ld 1
  obtain ⟨_, k⟩ := right12_spec pz sz
  obtain ⟨_, k2⟩ := psteps_spec pz sz
  obtain ⟨_, kl⟩ := lay33_spec pz sz
  have hsame := same34_spec (c := c1) (d := c2) (a3.same s3 (by simp)) (a4.same s3 (by simp)) a6
  rw [decide_eq_true rfl] at hsame
  have hm3 := hm.same t3 (by simp) (by simp)
  have hr3 := hr.same t3 (by simp) (by simp)
  have m1 : M3.ld mr 1 = some (.int .i64 st) := hr3.hd.ld 1
  have fin : ∀ z : Int, z = (if Rt pz sz then 2 * sz + 3 * pz else 0) → ∃ M', P4_114 LL x4 mr (some ⟨mb, 0, none⟩) f1 n' c1 e f2 n' c2 e z M3 = some (.bool true, M') := fun z hz => by
    refine ⟨M3, ?_⟩
    rw [P4_114_eq, bX hsame, bB, ifT, show (e == e) = true by simp, ifT, bLI y0, bLI y1, bX kl]
    simp only [agg2, Option.bind_some, get0, get1, intOf_int]
    rw [bX k2, bI, ← hz, show (z == z) = true by simp, ifT, bX (steps_spec hm3), bI, bLI m1, show ((st : Int) == (st : Int)) = true by simp, ifT, bX aw, bB, if_pos (by simp [chkOk, List.lookup])]
  rw [bLI y0, bLI y1, bX k, bB]
  by_cases hR : Rt pz sz
  · rw [decide_eq_true hR, ifT, bLI y1, bLI y0]
    have hR' := hR
    obtain ⟨r1, r2, r3, r4⟩ := hR'
    rw [w64 (n := 2 * sz) (by omega), w64 (n := 3 * pz) (by omega), w64 (by omega)]
    exact fin _ (by rw [if_pos hR])
  · rw [decide_eq_false hR, ifF]
    exact fin _ (by rw [if_neg hR])

theorem plays34_loop {N n K1 : Nat} {D : Nat → Prop} {mb ma : Nat} {o : Option Addr} {oc nl : Nat} {mr : Nat} {p : Option Addr} {pc : Nat} {q : Option Addr} {qc : Nat} {pp : Option Addr} {qb x4 : Nat} {pz sz : Int} (hK : ∀ z, D z → z < K1) (hNK : N ≤ K1) (hnl : nl ≤ 100) (hx4 : ¬ D x4 ∧ x4 < N) {w : Option Addr} {wc : Nat} {ord : List Int} (hord : ∀ x ∈ ord, 0 ≤ x ∧ x < 256) (hoL : ord.length ≤ 200) (hwN : 0 < ord.length → ∀ b ∈ blk w, b < N) :
    ∀ (d i : Nat) (M : AMem) (L : List Int) (st wi : Nat) (l : List Fl) (rs : List Rf) (xo : Option PK), i + d = ord.length → l.length = nl → RdI M .u8 w ord.length ord → Rd M x4 [.int .i64 pz, .int .i64 sz] → QI N n K1 D M mb ma L st wi o l i mr p pc q qc rs pp qb xo →
    ∃ M', P4_57 LL w ord.length wc x4 mr (some ⟨mb, 0, none⟩) pp qb q nl qc o nl oc (i : Int) M = some (.bool true, M') := by
  intro d
  induction d with
  | zero =>
    intro i M L st wi l rs xo hi hl hr h4 h
    rw [P4_57_eq LL L_loop, ifDn (by rw [ofN]; omega)]
    exact plays34_end h h4
  | succ d ih =>
    intro i M L st wi l rs xo hi hl hr h4 h
    have hil : i < ord.length := by omega
    have hgi : (0 : Int) ≤ (i : Int) ∧ (i : Int) < Int.ofNat ord.length := by rw [ofN]; omega
    rw [P4_57_eq LL L_loop, ifD hgi.2]
    obtain ⟨wb, rfl, hwb⟩ := hr.2 (by omega)
    have hv8 := hord (ord.getD i 0) (by rw [List.getD_eq_getElem?_getD, List.getElem?_eq_getElem hil]; exact List.getElem_mem hil)
    obtain ⟨v, hv'⟩ : ∃ v : Nat, ord.getD i 0 = (v : Int) := ⟨(ord.getD i 0).toNat, by omega⟩
    have hld : M.ld wb i = some (.int .u8 (v : Int)) := by rw [hwb.ld, ints_nat hil, hv']
    have w1 : IntKind.wrap .i64 (v : Int) = (v : Int) := w64 (by omega)
    have w0 : IntKind.wrap .i64 (Int.ofNat nl + 1) = ((nl + 1 : Nat) : Int) := by rw [ofN, w64 (by omega)]; rfl
    have hk : v % (nl + 1) < nl + 1 := Nat.mod_lt _ (by omega)
    have w2 : Int.tmod (v : Int) ((nl + 1 : Nat) : Int) = ((v % (nl + 1) : Nat) : Int) := Int.ofNat_tmod v (nl + 1)
    generalize hkk : v % (nl + 1) = k at hk w2
    have hg0 : ¬ ((nl + 1 : Nat) : Int) = 0 := by omega
    have hw : IntKind.wrap .i64 ((i : Int) + 1) = ((i + 1 : Nat) : Int) := by rw [w64 (by omega)]; rfl
    have hrl : rs.length = l.length := by have := congrArg List.length h.pi.eq; simpa using this
    have hlo := h.pi.li.sys.lo
    simp only [↓if_pos hgi, Nat.zero_add, Nat.mul_one, Int.toNat_natCast, ↓bLI hld, w0, ↓if_neg hg0, w1, w2]
    by_cases hk0 : k = 0
    · -- a look's step
      rw [ifDn (by omega)]
      have d0 := h.d0
      have dis := fun z hz => h.pi.dis z hz
      obtain ⟨M1, M2, xo', S, a1, a2, a3, a4, a5, a6, a7, ⟨dn, b1, e, b2, b3⟩, ⟨tr, c1, c2⟩⟩ := lk_step h.lk hK h.kM hNK h.pi.li.sys.mem h.pi.ref (by have := h.pi.li.st; omega) ⟨d0 mb (by simp), d0 ma (by simp), d0 mr (by simp), fun z hz => d0 z (by simp [hz])⟩ ⟨(dis mr (by simp)).2.1, (dis mr (by simp)).2.2.1, fun z hz => ⟨(dis z (by simp [hz])).2.1, (dis z (by simp [hz])).2.2.1⟩⟩
      have hT : lkT L xo ≤ 1 := by unfold lkT pkT; split <;> (try split) <;> omega
      have hout : ∀ z ∈ mb :: mr :: S, z ∉ blk q ∧ z ∉ blk o ∧ (∀ x ∈ l, z ∉ x.bl) ∧ ∀ x ∈ rs, z ≠ x.z := fun z hz => by
        have am := h.pi.li.sys.am
        have ao := h.pi.li.sys.ao
        rcases List.mem_cons.1 hz with rfl | hz
        · exact ⟨fun hb => (dis z (by simp [hb])).2.1 rfl, fun hb => (ao z hb).1 rfl, fun x hx => (am x hx).1, fun x hx e => (dis x.z (List.mem_append_right _ (List.mem_map_of_mem hx))).2.1 e.symm⟩
        rcases List.mem_cons.1 hz with rfl | hz
        · exact ⟨fun hb => (h.pi.qd z hb).1 rfl, (dis z (by simp)).2.2.2.1, (dis z (by simp)).2.2.2.2, fun x hx e => (h.pi.zd x hx).1 e.symm⟩
        · have hn := (a7 z hz).2
          exact ⟨fun hb => hn (d0 z (by simp [hb])), fun hb => hn (d0 z (by simp [hb])), fun x hx hb => hn (h.d1 x hx z hb), fun x hx e => hn (e ▸ h.d2 x hx)⟩
      have hpi := h.pi.look a4 a5 a6 hout (T' := i + 1) (by have := h.pi.li.st; omega) (by omega)
      have hQ : QI N n K1 D M2 mb ma L (st + lkT L xo) wi o l (i + 1) mr p pc q qc rs pp qb xo' := ⟨hpi, a3, d0, h.d1, h.d2, by have := a6.le; have := h.kM; omega⟩
      have hSN : ∀ z ∈ mb :: mr :: S, N ≤ z := fun z hz => by
        rcases List.mem_cons.1 hz with rfl | hz
        · exact hlo.1
        rcases List.mem_cons.1 hz with rfl | hz
        · exact (dis z (by simp)).1
        · exact (a7 z hz).1
      obtain ⟨M', e1⟩ := ih (i + 1) M2 L _ wi l rs xo' (by omega) hl (hr.same a6 (fun b hb hbs => by have := hwN (by omega) b hb; have := hSN b hbs; omega)) (h4.same a6 (fun hb => by have := hSN _ hb; omega)) hQ
      refine ⟨M', ?_⟩
      rw [bX a1, bB, bX a2, bB, show (!((!lkOver L xo) == (!lkOver L xo))) = false by simp, ifF, bX b1, bB, bLI b2, b3, show (!(dn == dn)) = false by simp, ifF, bX c1, bI, bLI c2, if_pos (by simp [chkOk, List.lookup]), show (tr != tr) = false by simp, P4_80_eq, ifF, P4_85_eq, hw]
      exact e1
    · -- a flush's step
      obtain ⟨x, hx⟩ : ∃ x, l[k - 1]? = some x := ⟨_, List.getElem?_eq_getElem (by omega)⟩
      obtain ⟨y, hy⟩ : ∃ y, rs[k - 1]? = some y := ⟨_, List.getElem?_eq_getElem (by omega)⟩
      have hxl := List.mem_of_getElem? hx
      have hyl := List.mem_of_getElem? hy
      obtain ⟨z, rfl, hp⟩ := h.pi.li.sys.ld hx
      obtain ⟨M1, M2, c', rb, rfl, k1, k2, k3, k4⟩ := h.pi.step (by omega) hx hy
      have w3 : IntKind.wrap .i64 ((k : Int) - 1) = ((k - 1 : Nat) : Int) := by rw [w64 (by omega)]; omega
      have hgk : (0 : Int) ≤ ((k - 1 : Nat) : Int) ∧ ((k - 1 : Nat) : Int) < Int.ofNat nl := by rw [ofN]; omega
      have d0 := h.d0
      have hSD : ∀ b ∈ x.f :: mb :: ma :: mr :: (blk p ++ blk (some ⟨rb, 0, none⟩)), D b := fun b hb => by
        rcases List.mem_cons.1 hb with rfl | hb
        · exact h.d1 x hxl _ (by simp [Fl.bl])
        · refine d0 b ?_
          simp only [List.mem_cons, List.mem_append] at hb
          rcases hb with rfl | rfl | rfl | hb | hb
          · simp
          · simp
          · simp
          · simp [hb]
          · simp only [List.mem_cons, List.mem_append]; exact .inr (.inr (.inr (.inl (.inr hb))))
      have hSN : ∀ b ∈ x.f :: mb :: ma :: mr :: (blk p ++ blk (some ⟨rb, 0, none⟩)), N ≤ b := fun b hb => by
        simp only [List.mem_cons, List.mem_append] at hb
        rcases hb with rfl | rfl | rfl | rfl | hb | hb
        · exact hlo.2.2 x hxl _ (by simp [Fl.bl])
        · exact hlo.1
        · exact hlo.2.1
        · exact (h.pi.dis b (by simp)).1
        · exact (h.pi.dis b (by simp [hb])).1
        · exact (h.pi.dis b (by simp only [List.mem_append, List.mem_cons]; exact .inl (.inr (.inr hb)))).1
      have hQ : QI N n K1 D M2 mb ma (fL L x.s) (st + fT L x.s) (wi + fW L x.s) (some ⟨z, 0, none⟩) (l.set (k - 1) (x.wi (fS L x.s))) (i + 1) mr p pc (some ⟨rb, 0, none⟩) qc (rs.set (k - 1) ⟨y.z, c', fS L x.s⟩) pp qb xo := by
        refine ⟨k3, h.lk.same k4 hSD, d0, fun y' hy' b hb => ?_, fun y' hy' => ?_, by have := k4.le; have := h.kM; omega⟩
        · obtain ⟨z', hz', e⟩ := mem_set_wi hx _ hy'
          exact h.d1 z' hz' b (by rw [e]; exact hb)
        · rcases List.mem_or_eq_of_mem_set hy' with hm | rfl
          · exact h.d2 y' hm
          · exact h.d2 y hyl
      obtain ⟨M', e1⟩ := ih (i + 1) M2 _ _ _ _ _ xo (by omega) (by simpa using hl) (hr.same k4 (fun b hb hbs => by have := hwN (by omega) b hb; have := hSN b hbs; omega)) (h4.same k4 (fun hb => by have := hSN _ hb; omega)) hQ
      refine ⟨M', ?_⟩
      rw [ifD (by omega), w3]
      simp only [↓if_pos hgk, Nat.zero_add, Nat.mul_one, Int.toNat_natCast, ↓bLP hp]
      rw [bX k1, bB, P4_74_eq, w3]
      simp only [↓if_pos hgk, Nat.zero_add, Int.toNat_natCast]
      rw [bX k2, bB, P4_85_eq, hw]
      exact e1

end Go.Proofs.Ytpnknolehckfhaa
