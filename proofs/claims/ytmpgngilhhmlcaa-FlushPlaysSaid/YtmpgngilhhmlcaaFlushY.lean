/- FlushPlays: the order; the end. -/
import Derived.Test.YtmpgngilhhmlcaaFlushX
set_option linter.unusedVariables false
set_option linter.unusedSimpArgs false
namespace Go.Proofs.Ytmpgngilhhmlcaa
open Go Go.Ax

structure PI (N n : Nat) (M : AMem) (mb ma : Nat) (L : List Int) (st wi : Nat) (o : Option Addr) (l : List Fl) (T : Nat) (mr : Nat) (p : Option Addr) (pc : Nat) (q : Option Addr) (qc : Nat) (rs : List Rf) : Prop where
  li : LI N n M mb ma L st wi o l T
  ref : IsRef M mr p pc L st wi
  sl : Slc M 6 q rs.length qc (rs.flatMap encR)
  ad : ∀ x ∈ rs, Rd M x.z (x.s.adds.flatMap encA)
  eq : rs.map Rf.s = l.map Fl.s
  al : ∀ x ∈ rs, x.s.adds.length ≤ 1000000
  dis : ∀ b ∈ mr :: (blk p ++ blk q) ++ rs.map Rf.z, N ≤ b ∧ b ≠ mb ∧ b ≠ ma ∧ b ∉ blk o ∧ ∀ x ∈ l, b ∉ x.bl
  qd : ∀ b ∈ blk q, b ≠ mr ∧ b ∉ blk p
  zd : ∀ x ∈ rs, x.z ≠ mr ∧ x.z ∉ blk p ∧ x.z ∉ blk q

theorem LI.same {N n : Nat} {M M' : AMem} {mb ma : Nat} {L : List Int} {st wi : Nat} {o : Option Addr} {l : List Fl} {T : Nat} (h : LI N n M mb ma L st wi o l T) {S : List Nat} (k : Same M M' S) (h1 : mb ∉ S ∧ ma ∉ S) (h2 : ∀ x ∈ l, ∀ b ∈ x.bl, b ∉ S) (h3 : ∀ b ∈ blk o, b ∉ S) : LI N n M' mb ma L st wi o l T :=
  ⟨h.sys.same k h1 h2 h3, h.good, h.len, h.st, h.wi, h.lo⟩

theorem PI.step {N n : Nat} {M : AMem} {mb ma : Nat} {L : List Int} {st wi : Nat} {o : Option Addr} {l : List Fl} {T : Nat} {mr : Nat} {p : Option Addr} {pc : Nat} {q : Option Addr} {qc : Nat} {rs : List Rf} (h : PI N n M mb ma L st wi o l T mr p pc q qc rs) (hT : T < 100000000) {k : Nat} {x : Fl} (hx : l[k]? = some x) {y : Rf} (hy : rs[k]? = some y) :
    ∃ M1 M2 c' rb, q = some ⟨rb, 0, none⟩ ∧ LL.call 13 [pt x.f, pt mb] M = some (.bool (!fOver L x.s), M1) ∧ LL.call 26 [.pointer (some ⟨rb, k * 6, none⟩), pt mr] M1 = some (.bool (!fOver L x.s), M2) ∧
      PI N n M2 mb ma (fL L x.s) (st + fT L x.s) (wi + fW L x.s) o (l.set k (x.wi (fS L x.s))) (T + 1) mr p pc q qc (rs.set k ⟨y.z, c', fS L x.s⟩) ∧ Same M M2 (x.f :: mb :: ma :: mr :: (blk p ++ blk q)) := by
  have hxl := List.mem_of_getElem? hx
  have hyl := List.mem_of_getElem? hy
  have hk := (List.getElem?_eq_some_iff.1 hx).1
  have hk' := (List.getElem?_eq_some_iff.1 hy).1
  have hys : y.s = x.s := by
    have := congrArg (fun z => z[k]?) h.eq
    simp only [List.getElem?_map, hx, hy, Option.map_some, Option.some.injEq] at this
    exact this
  obtain ⟨M1, k1, k2, k3⟩ := h.li.step hT hx
  obtain ⟨rb, rfl, hrb⟩ := h.sl.pos (by omega)
  have hout : ∀ b ∈ mr :: (blk p ++ blk (some ⟨rb, 0, none⟩)) ++ rs.map Rf.z, b ∉ [x.f, mb, ma] := fun b hb => by
    obtain ⟨_, q1, q2, q3, q4⟩ := h.dis b hb
    simp only [List.mem_cons, List.not_mem_nil, or_false, not_or]
    exact ⟨fun e => q4 x hxl (by simp [Fl.bl, ← e]), q1, q2⟩
  have href := h.ref.same k3 (hout _ (by simp)) (fun b hb => hout b (by simp [hb]))
  have hrb1 := hrb.same k3 (hout rb (by simp))
  have hz1 := (h.ad y hyl).same k3 (hout y.z (List.mem_append_right _ (List.mem_map_of_mem hyl)))
  have hg : Good L.length x.s := by rw [h.li.len]; exact h.li.good x hxl
  have hnx := hg.nx
  have hst := h.li.st
  have hwi := h.li.wi
  have hlo := h.li.lo x hxl
  have qd := h.qd rb (by simp)
  obtain ⟨zd1, zd2, zd3⟩ := h.zd y hyl
  obtain ⟨M2, c', e1, e2, e3, e4⟩ := rf_step hy hrb1 hz1 (by rw [hys]; exact hnx) (h.al y hyl) href (by omega) (by omega) (by rw [hys]; omega) ⟨qd.1, qd.2⟩ ⟨by simpa using zd3, zd1, zd2⟩
  rw [hys] at e1 e2 e3
  have hin : ∀ b ∈ rb :: mr :: blk p, b ∈ mr :: (blk p ++ blk (some ⟨rb, 0, none⟩)) ++ rs.map Rf.z := fun b hb => by
    simp only [List.mem_cons] at hb
    rcases hb with rfl | rfl | hb
    · simp
    · simp
    · simp [hb]
  have hzset : (rs.set k (⟨y.z, c', fS L x.s⟩ : Rf)).map Rf.z = rs.map Rf.z := by
    rw [List.map_set]
    refine List.ext_getElem? fun i => ?_
    by_cases e : k = i
    · subst e
      rw [List.getElem?_set_self (by simpa using hk'), List.getElem?_map, hy]
      rfl
    · rw [List.getElem?_set_ne e]
  have hmem : ∀ z ∈ rs.set k (⟨y.z, c', fS L x.s⟩ : Rf), ∃ z' ∈ rs, z'.z = z.z ∧ z'.s.adds = z.s.adds := fun z hz => by
    obtain ⟨i, hi⟩ := List.getElem?_of_mem hz
    by_cases e : k = i
    · subst e
      rw [List.getElem?_set_self hk'] at hi
      cases hi
      exact ⟨y, hyl, rfl, by simp only [fS_adds, hys]⟩
    · rw [List.getElem?_set_ne e] at hi
      exact ⟨z, List.mem_of_getElem? hi, rfl, rfl⟩
  refine ⟨M1, M2, c', rb, rfl, k1, e1, ⟨k2.same e4 ⟨fun hb => ?_, fun hb => ?_⟩ (fun z hz b hb hbs => ?_) (fun b hb hbs => ?_), e3, ?_, fun z hz => ?_, ?_, fun z hz => ?_, fun b hb => ?_, h.qd, fun z hz => ?_⟩, ?_⟩
  · exact (h.dis mb (hin mb hb)).2.1 rfl
  · exact (h.dis ma (hin ma hb)).2.2.1 rfl
  · obtain ⟨z', hz', e⟩ := mem_set_wi hx _ hz
    exact (h.dis b (hin b hbs)).2.2.2.2 z' hz' (by rw [e]; exact hb)
  · exact (h.dis b (hin b hbs)).2.2.2.1 hb
  · have hc : qc = 6 ∨ True := .inr trivial
    refine ⟨by rw [flatMap_length encR_length], .inr ⟨rb, rfl, ?_, e2⟩⟩
    rcases h.sl.2 with ⟨e, _⟩ | ⟨a, _, e, _⟩
    · cases e
    · exact e
  · obtain ⟨z', hz', q1, q2⟩ := hmem z hz
    rw [← q1, ← q2]
    obtain ⟨d1, d2, d3⟩ := h.zd z' hz'
    refine ((h.ad z' hz').same k3 (hout _ (List.mem_append_right _ (List.mem_map_of_mem hz')))).same e4 ?_
    simp only [List.mem_cons, not_or]
    exact ⟨by simpa using d3, d1, d2⟩
  · rw [List.map_set, List.map_set, h.eq]; rfl
  · obtain ⟨z', hz', q1, q2⟩ := hmem z hz
    rw [← q2]; exact h.al z' hz'
  · rw [hzset] at hb
    obtain ⟨q0, q1, q2, q3, q4⟩ := h.dis b hb
    refine ⟨q0, q1, q2, q3, fun z hz => ?_⟩
    obtain ⟨z', hz', e⟩ := mem_set_wi hx _ hz
    rw [← e]; exact q4 z' hz'
  · obtain ⟨z', hz', q1, q2⟩ := hmem z hz
    rw [← q1]; exact h.zd z' hz'
  · refine (k3.trans e4).mono fun b hb => ?_
    simp only [List.mem_append, List.mem_cons, List.not_mem_nil, or_false, blk_some] at hb ⊢
    rcases hb with (rfl | rfl | rfl) | rfl | rfl | hb <;> simp_all

theorem done_nil (M : AMem) : LL.call 15 [.pointer none] M = some (.bool true, M) := by
  rw [L_call15, E15, bX (left_nil M), bI]
  rfl
theorem begun_nil (M : AMem) : LL.call 27 [.pointer none] M = some (.bool false, M) := by
  rw [L_call27, E27]
  simp
theorem lost_nil (M : AMem) : LL.call 18 [.pointer none] M = some (.int .i64 0, M) := by
  rw [L_call18, E18]
  simp
theorem step_nil (M : AMem) (b : Nat) : LL.call 13 [.pointer none, pt b] M = some (.bool false, M) := by
  rw [L_call13, E13, bX (left_nil M), bI]
  rfl

theorem plays_end {N n : Nat} {M : AMem} {mb ma : Nat} {L : List Int} {st wi : Nat} {o : Option Addr} {l : List Fl} {T : Nat} {mr : Nat} {p : Option Addr} {pc : Nat} {q : Option Addr} {qc : Nat} {rs : List Rf} (h : PI N n M mb ma L st wi o l T mr p pc q qc rs) (hn : n ≤ 1000) :
    ∃ M', P5_74 LL mr (some ⟨mb, 0, none⟩) M = some (.bool true, M') := by
  obtain ⟨_, aw⟩ := awake33
  rw [P5_74_eq]
  have s1 := same_app M [AObj.cells [.int .i64 0, .slice none 0 0, .int .i64 0, .bool false, .int .u64 0, .int .i64 0] ⟨false, 0⟩]
  have g1 := cells_new M [.int .i64 0, .slice none 0 0, .int .i64 0, .bool false, .int .u64 0, .int .i64 0] 0
  generalize M ++ [AObj.cells [.int .i64 0, .slice none 0 0, .int .i64 0, .bool false, .int .u64 0, .int .i64 0] ⟨false, 0⟩] = M1 at s1 g1 ⊢
  have hf : IsFl M1 M.length none 0 ⟨0, [], 0, false, 0, 0⟩ := ⟨g1, ⟨rfl, fun h => absurd h (by simp)⟩, by simp, Nat.le_refl _, by simp⟩
  have hm1 := h.li.sys.mem.same s1 (by simp) (by simp)
  have hr1 := h.ref.same s1 (by simp) (by simp)
  have hLl := h.li.len
  have so : LL.call 13 [pt M.length, pt mb] M1 = some (.bool false, M1) := step_over hf hm1 (.inl rfl)
  have do' : LL.call 15 [pt M.length] M1 = some (.bool true, M1) := by have := done_spec hf; simpa using this
  have be' : LL.call 27 [pt M.length] M1 = some (.bool false, M1) := by have := begun_spec' hf; simpa using this
  have le' : LL.call 14 [pt M.length] M1 = some (.int .i64 0, M1) := by have := left_spec hf; simpa using this
  have lo' : LL.call 18 [pt M.length] M1 = some (.int .i64 0, M1) := by have := lost_spec hf; simpa using this
  obtain ⟨M2, c, cc, k1, k2, k3, k4⟩ := cells_spec hm1 (by omega) 0 1000
  have hsub : sub L 0 1000 = L := by
    unfold sub
    rw [if_neg (by omega)]
    show (L.drop 0).take 1000 = L
    rw [List.drop_zero, List.take_of_length_le (by omega)]
  rw [hsub] at k1 k2
  have hr2 := hr1.same k3 (by simp) (by simp)
  have hm2 := hm1.same k3 (by simp) (by simp)
  have m0 : M2.ld mr 0 = some (.slice p L.length pc) := hr2.hd.ld 0
  have m1 : M2.ld mr 1 = some (.int .i64 st) := hr2.hd.ld 1
  have m2 : M2.ld mr 2 = some (.int .i64 wi) := hr2.hd.ld 2
  have hsame := same33_spec (c := cc) (d := pc) (RdI.of_slc k2) (RdI.of_slc hr2.cs) (by omega)
  rw [decide_eq_true rfl] at hsame
  have hmr := hr1.hd.lt
  have hchk : chkOk [(3, 1), (9, 7), (16, 14)] [(16, mr), (9, mr), (3, mr)] [(14, (M2, M2)), (7, (M2, M2)), (1, (M1, M2))] = true := by simp [chkOk, List.lookup, ver_same k3 hmr (by simp)]
  refine ⟨M2, ?_⟩
  rw [bX (step_nil M1 mb), bB, ifF, bX so, bB, ifF, bX (done_nil M1), bB, ifNT, bX do', bB, ifNT, bX (begun_nil M1), bB, ifF, bX be', bB, ifF, bX (left_nil M1), bI, bX le', bI, bX (lost_nil M1), bI, bX lo', bI]
  have e0 : (IntKind.wrap .i64 (IntKind.wrap .i64 (IntKind.wrap .i64 (0 + 0) + 0) + 0) != 0) = false := rfl
  rw [e0, P5_81_eq, ifF, bX k1, bS, bLS m0, bX hsame, bB, ifT, bX (steps_spec hm2), bI, bLI m1]
  rw [show ((st : Int) == (st : Int)) = true by simp, ifT, bX (wins_spec hm2), bI, bLI m2, show ((wi : Int) == (wi : Int)) = true by simp, ifT, bX aw, bB, if_pos hchk]

theorem plays_loop {N n : Nat} {mb ma : Nat} {o : Option Addr} {oc nl : Nat} {mr : Nat} {p : Option Addr} {pc : Nat} {q : Option Addr} {qc : Nat} (hn : n ≤ 1000) {w : Option Addr} {wc : Nat} {ord : List Int} (hord : ∀ x ∈ ord, 0 ≤ x ∧ x < 256) (hoL : ord.length ≤ 150) (hwN : 0 < ord.length → ∀ b ∈ blk w, b < N) :
    ∀ (d i : Nat) (M : AMem) (L : List Int) (st wi : Nat) (l : List Fl) (rs : List Rf), i + d = ord.length → l.length = nl → RdI M .u8 w ord.length ord → PI N n M mb ma L st wi o l i mr p pc q qc rs →
    ∃ M', P5_55 LL w ord.length wc mr (some ⟨mb, 0, none⟩) o nl oc q nl qc (i : Int) M = some (.bool true, M') := by
  intro d
  induction d with
  | zero =>
    intro i M L st wi l rs hi hl hr h
    rw [P5_55_eq LL L_loop, ifDn (by rw [ofN]; omega)]
    exact plays_end h hn
  | succ d ih =>
    intro i M L st wi l rs hi hl hr h
    have hil : i < ord.length := by omega
    have hgi : (0 : Int) ≤ (i : Int) ∧ (i : Int) < Int.ofNat ord.length := by rw [ofN]; omega
    rw [P5_55_eq LL L_loop, ifD hgi.2]
    by_cases hn0 : nl = 0
    · rw [ifDn (by rw [ofN]; omega)]
      exact plays_end h hn
    rw [ifD (by rw [ofN]; omega)]
    obtain ⟨wb, rfl, hwb⟩ := hr.2 (by omega)
    have hv8 := hord (ord.getD i 0) (by rw [List.getD_eq_getElem?_getD, List.getElem?_eq_getElem hil]; exact List.getElem_mem hil)
    obtain ⟨v, hv'⟩ : ∃ v : Nat, ord.getD i 0 = (v : Int) := ⟨(ord.getD i 0).toNat, by omega⟩
    have hld : M.ld wb i = some (.int .u8 (v : Int)) := by rw [hwb.ld, ints_nat hil, hv']
    have w1 : IntKind.wrap .i64 (v : Int) = (v : Int) := w64 (by omega)
    have hk : v % nl < nl := Nat.mod_lt _ (by omega)
    have w2 : Int.tmod (v : Int) (Int.ofNat nl) = ((v % nl : Nat) : Int) := by rw [ofN]; exact Int.ofNat_tmod v nl
    generalize hkk : v % nl = k at hk w2
    obtain ⟨x, hx⟩ : ∃ x, l[k]? = some x := ⟨_, List.getElem?_eq_getElem (by omega)⟩
    have hrl : rs.length = l.length := by have := congrArg List.length h.eq; simpa using this
    obtain ⟨y, hy⟩ : ∃ y, rs[k]? = some y := ⟨_, List.getElem?_eq_getElem (by omega)⟩
    have hxl := List.mem_of_getElem? hx
    have hg0 : ¬ Int.ofNat nl = 0 := by rw [ofN]; omega
    have hgk : (0 : Int) ≤ (k : Int) ∧ (k : Int) < Int.ofNat nl := by rw [ofN]; omega
    have hw : IntKind.wrap .i64 ((i : Int) + 1) = ((i + 1 : Nat) : Int) := by rw [w64 (by omega)]; rfl
    obtain ⟨z, rfl, hp⟩ := h.li.sys.ld hx
    have hq : (0 : Nat) < rs.length := by omega
    obtain ⟨M1, M2, c', rb, rfl, k1, k2, k3, k4⟩ := h.step (by omega) hx hy
    have hb := h.li.sys.lo
    have hNx := hb.2.2 x hxl x.f (by simp [Fl.bl])
    have hSN : ∀ b ∈ x.f :: mb :: ma :: mr :: (blk p ++ blk (some ⟨rb, 0, none⟩)), N ≤ b := by
      intro b hb'
      simp only [List.mem_cons, List.mem_append] at hb'
      rcases hb' with rfl | rfl | rfl | rfl | hb' | hb'
      · omega
      · omega
      · omega
      · exact (h.dis b (by simp)).1
      · exact (h.dis b (by simp [hb'])).1
      · exact (h.dis b (by simp only [List.mem_append, List.mem_cons]; exact .inl (.inr (.inr hb')))).1
    have hr1 : RdI M2 .u8 (some ⟨wb, 0, none⟩) ord.length ord := hr.same k4 (fun b hb' hbs => by have := hwN (by omega) b hb'; have := hSN b hbs; omega)
    obtain ⟨M', e1⟩ := ih (i + 1) M2 _ _ _ _ _ (by omega) (by simpa using hl) hr1 k3
    have hx' : (l.set k (x.wi (fS L x.s)))[k]? = some (x.wi (fS L x.s)) := List.getElem?_set_self (by omega)
    obtain ⟨z', hz', hp'⟩ := k3.li.sys.ld hx'
    cases hz'
    have hf' := k3.li.sys.fl.is _ (List.mem_of_getElem? hx')
    have hy' : (rs.set k (⟨y.z, c', fS L x.s⟩ : Rf))[k]? = some ⟨y.z, c', fS L x.s⟩ := List.getElem?_set_self (by omega)
    obtain ⟨rb', hrb', hrr⟩ := k3.sl.pos (by simp; omega)
    cases hrb'
    obtain ⟨d0, d1, d2, d3, d4, d5⟩ := rf_ld hrr.rd hy'
    simp only at d1 d2 d5
    refine ⟨M', ?_⟩
    have hgk2 : (0 : Int) ≤ (k : Int) ∧ (k : Int) < Int.ofNat nl := hgk
    have lf : LL.call 14 [pt x.f] M2 = some (.int .i64 (((fS L x.s).adds.length - (fS L x.s).nx : Nat) : Int), M2) := left_spec hf'
    have df : LL.call 15 [pt x.f] M2 = some (.bool (decide ((fS L x.s).adds.length = (fS L x.s).nx)), M2) := done_spec hf'
    have bf : LL.call 27 [pt x.f] M2 = some (.bool (decide (0 < (fS L x.s).nx)), M2) := begun_spec' hf'
    have of : LL.call 18 [pt x.f] M2 = some (.int .i64 ((fS L x.s).lost : Int), M2) := lost_spec hf'
    have hnx' : (fS L x.s).nx ≤ (fS L x.s).adds.length := hf'.nx
    simp only [Fl.wi] at hp'
    generalize fS L x.s = fs at *
    have q1 : (((fs.adds.length - fs.nx : Nat) : Int) != Int.ofNat (fs.adds.length - fs.nx)) = false := by rw [ofN]; simp
    have q2 : (!(decide (fs.adds.length = fs.nx) == (Int.ofNat (fs.adds.length - fs.nx) == 0))) = false := by
      rw [ofN]
      by_cases e : fs.adds.length = fs.nx
      · rw [decide_eq_true e, e, Nat.sub_self]; rfl
      · have : ((((fs.adds.length - fs.nx : Nat) : Int)) == 0) = false := beq_eq_false_iff_ne.2 (by omega)
        rw [decide_eq_false e, this]; rfl
    have q3 : (!(decide (0 < fs.nx) == decide (Int.ofNat (fs.adds.length - fs.nx) < (fs.adds.length : Int)))) = false := by
      rw [ofN]
      have : decide (0 < fs.nx) = decide (((fs.adds.length - fs.nx : Nat) : Int) < (fs.adds.length : Int)) := by rw [decide_eq_decide]; omega
      rw [this]; simp
    have q4 : ((fs.lost : Int) != (fs.lost : Int)) = false := by simp
    have q5 : (!((!fOver L x.s) == (!fOver L x.s))) = false := by simp
    simp only [↓if_pos hgi, Nat.zero_add, Nat.mul_one, Int.toNat_natCast, ↓bLI hld, ↓if_neg hg0, w1, w2, ↓if_pos hgk, ↓bLP hp]
    rw [bX k1, bB]
    simp only [↓if_pos hgk, Nat.zero_add, Nat.mul_one, Int.toNat_natCast]
    rw [bX k2, bB, q5, ifF]
    simp only [↓if_pos hgk, Nat.zero_add, Nat.mul_one, Int.toNat_natCast, ↓bLP hp', ↓bX lf, ↓bI, ↓bLS d1]
    rw [q1, ifF]
    simp only [↓if_pos hgk, Nat.zero_add, Nat.mul_one, Int.toNat_natCast, ↓bLP hp', ↓bX df, ↓bB, ↓bLS d1]
    rw [q2, ifF]
    simp only [↓if_pos hgk, Nat.zero_add, Nat.mul_one, Int.toNat_natCast, ↓bLP hp', ↓bX bf, ↓bB, ↓bLS d1, ↓bLI d2]
    rw [q3, ifF]
    simp only [↓if_pos hgk, Nat.zero_add, Nat.mul_one, Int.toNat_natCast, ↓bLP hp', ↓bX of, ↓bI, ↓bLI d5]
    rw [q4]
    rw [if_pos (by simp [chkOk, List.lookup]), P5_68_eq, ifF, P5_73_eq, hw]
    exact e1

end Go.Proofs.Ytmpgngilhhmlcaa
