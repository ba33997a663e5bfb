/- FlushLost: the order, one flush alone, the end. -/
import Derived.Test.YtmpgngilhhmlcaaFlushI
import Derived.Test.YtmpgngilhhmlcaaAwakeF
import Derived.Test.YtmpgngilhhmlcaaEqFLost
set_option linter.unusedVariables false
set_option linter.unusedSimpArgs false
namespace Go.Proofs.Ytmpgngilhhmlcaa
open Go Go.Ax

theorem alone_loop {q : Option Addr} {jn jc mb ma f : Nat} {fo : Option Addr} {fc : Nat} (hd : f ≠ mb ∧ f ≠ ma ∧ ∀ x ∈ blk fo, x ≠ mb ∧ x ≠ ma) : ∀ (c i : Nat) (M : AMem) (L : List Int) (st wi : Nat) (s : FS), IsFl M f fo fc s → IsMem M mb ma L st wi → Good L.length s → cost L s = c → i + c < 1000 → st + c ≤ 100000 → wi + c ≤ 100000 → s.lost + c ≤ 100000 →
    ∃ M', P4_85 LL q jn jc (some ⟨mb, 0, none⟩) (some ⟨f, 0, none⟩) i M = P4_94 LL q jn jc (some ⟨f, 0, none⟩) ((i + c : Nat) : Int) M' ∧ Same M M' [f, mb, ma] := by
  intro c
  induction c with
  | zero =>
    intro i M L st wi s hf hm hg hc hi h1 h2 h3
    have hn := hg.nx
    have hov : fOver L s = true := by
      rw [hg.over, decide_eq_true_eq]
      have := (cost_le L s).2.1
      have : s.adds.length - s.nx = 0 := by omega
      omega
    obtain ⟨M', k1, k2, k3, k4⟩ := fl_step hf hm (by omega) (by omega) (by omega) hd
    rw [hov] at k1
    refine ⟨M', ?_, k4⟩
    rw [P4_85_eq LL L_loop, Option.isNone_some, Bool.not_false, ifT, ifD (by omega), bX k1, bB, Bool.not_true, ifF]
    rfl
  | succ c ih =>
    intro i M L st wi s hf hm hg hc hi h1 h2 h3
    have hn := hg.nx
    have hlt : s.nx < s.adds.length := by
      by_cases h : s.nx < s.adds.length
      · exact h
      · unfold cost at hc; rw [if_neg h] at hc; omega
    have hov : fOver L s = false := by rw [hg.over]; exact decide_eq_false (by omega)
    obtain ⟨M1, k1, k2, k3, k4⟩ := fl_step hf hm (by omega) (by omega) (by omega) hd
    rw [hov] at k1
    have hcs := cost_step hg hlt
    have q1 := fT_le L s
    have q2 := fW_le L s
    have q3 := fLo_le L s
    have q4 := fS_lost L s hg
    obtain ⟨M', e1, e2⟩ := ih (i + 1) M1 (fL L s) _ _ (fS L s) k2 k3 hg.step (by omega) (by omega) (by omega) (by omega) (by omega)
    refine ⟨M', ?_, (k4.trans e2).mono (by simp)⟩
    have hw : IntKind.wrap .i64 ((i : Int) + 1) = ((i + 1 : Nat) : Int) := by rw [w64 (by omega)]; rfl
    rw [P4_85_eq LL L_loop, Option.isNone_some, Bool.not_false, ifT, ifD (by omega), bX k1, bB, Bool.not_false, ifT, hw, e1, show i + 1 + c = i + (c + 1) by omega]

theorem fl_end {q : Option Addr} {js : List Jb} {jc N : Nat} {M : AMem} {f : Nat} {n : Nat} {j : Jb} (hj : Jobs N M q js) (h0 : js[0]? = some j) (hl : j.es.length ≤ 100000) {S st : Int} (hn : n = 2 * (flAdds S st j.es).length) :
    ∃ M', P4_94 LL q js.length jc (some ⟨f, 0, none⟩) (n : Int) M = some (.bool true, M') := by
  obtain ⟨z, rfl, hz, l0, l1⟩ := hj.ld h0
  rw [Nat.zero_mul, Nat.zero_add] at l1
  have hlt := (List.getElem?_eq_some_iff.1 h0).1
  obtain ⟨M1, o1, c1, a1, a2, a3, a4⟩ := of33_spec (qc := 0) (hj.es j (List.mem_of_getElem? h0)).1 (by omega)
  obtain ⟨M2, b1, b2⟩ := steps_flush (qc := c1) a2 hl S st
  obtain ⟨_, w⟩ := awake33
  have hg : (0 : Int) ≤ 0 ∧ (0 : Int) < Int.ofNat js.length := by rw [ofN]; omega
  refine ⟨M2, ?_⟩
  rw [P4_94_eq, Option.isNone_some, ifF]
  simp only [↓if_pos hg, Nat.zero_add, ↓bLS l1, ↓bX a1, ↓bS, ↓bX b1, ↓bI]
  have : ((n : Int) == 2 * ((flAdds S st j.es).length : Int)) = true := by rw [hn]; simp
  rw [this, ifT, bX w, bB]

theorem lost_alone {p s : Int} {q : Option Addr} {js : List Jb} {jc N : Nat} {M : AMem} {mb ma : Nat} {L : List Int} {st wi : Nat} {j : Jb} (hj : Jobs N M q js) (h0 : js[0]? = some j) (hm : IsMem M mb ma L st wi) (hL : L.length = szN p s) (hl : j.es.length ≤ 24) (hN : N ≤ mb ∧ N ≤ ma) (hst : st ≤ 1000) (hwi : wi ≤ 1000)
    {p1 : Option Addr} {M1 : AMem} {o1 : Option Addr} {c1 : Nat} (hs1 : Same M M1 []) (hr1 : RdL M1 encE o1 j.es.length j.es) :
    ∃ M2 v, LL.call 21 [lay p s, .int .i64 j.st, .slice o1 j.es.length c1] M1 = some (.pointer v, M2) ∧ ∃ M', P4_81 LL q js.length jc (some ⟨mb, 0, none⟩) v M2 = some (.bool true, M') := by
  have hn := fnew_spec (p := p) (s := s) (st := j.st) (es := j.es) (qc := c1) hr1 (by omega)
  obtain ⟨_, w⟩ := awake33
  by_cases hok : FlOk p s j.st j.es
  · obtain ⟨M2, f, fo, fc, b1, b2, b3, b4, b5⟩ := hn.1 hok
    refine ⟨M2, _, b1, ?_⟩
    have t2 : Same M M2 [] := (hs1.trans b3).mono (by simp)
    have hm2 := hm.same t2 (by simp) (by simp)
    have hg : Good L.length (flNew p s j.st j.es) := by rw [hL]; exact flNew_good hok
    have hc := (cost_le L (flNew p s j.st j.es)).2.2 rfl
    have hle := hs1.le
    have hmb := hm.hd.lt
    have hma := hm.cs.lt
    have hal := esAdds_len s j.es
    have hlen : (flAdds s j.st j.es).length ≤ 2 + 72 := by simp only [flAdds, List.length_cons, List.length_append, List.length_nil]; omega
    have hc' : cost L (flNew p s j.st j.es) = 2 * (flAdds s j.st j.es).length := by rw [hc]; simp [flNew]
    obtain ⟨M3, e1, e2⟩ := alone_loop (q := q) (jn := js.length) (jc := jc) (ma := ma) (fc := fc) ⟨by omega, by omega, fun x hx => by have := b5 x hx; omega⟩ _ 0 M2 L st wi _ b2 hm2 hg hc' (by omega) (by omega) (by omega) (by simp only [flNew]; omega)
    have hN2 : N ≤ M.length := by omega
    obtain ⟨M', e3⟩ := fl_end (jc := jc) (f := f) ((hj.same t2 (by simp)).same e2 (fun b hb => by
      simp only [List.mem_cons, List.not_mem_nil, or_false] at hb
      rcases hb with rfl | rfl | rfl <;> omega)) h0 (by omega) (n := 2 * (flAdds s j.st j.es).length) (S := s) (st := j.st) rfl
    refine ⟨M', ?_⟩
    rw [P4_81_eq, show (0 : Int) = ((0 : Nat) : Int) from rfl, e1, Nat.zero_add, e3]
  · obtain ⟨M2, b1, b2⟩ := hn.2 hok
    refine ⟨M2, _, b1, M2, ?_⟩
    rw [P4_81_eq, P4_85_eq LL L_loop, Option.isNone_none, Bool.not_true, ifF, P4_94_eq, Option.isNone_none, ifT, bX w, bB]

theorem lost_end {p s : Int} {q : Option Addr} {js : List Jb} {jc N : Nat} {M : AMem} {mb ma x3 : Nat} {L : List Int} {st wi : Nat} {o : Option Addr} {oc : Nat} {l : List Fl} {j : Jb} {lost T : Nat} (hj : Jobs N M q js) (h0 : js[0]? = some j) (hl : j.es.length ≤ 24) (h : LI N (szN p s) M mb ma L st wi o l T) (hT : T ≤ 1000) (h3 : Rd M x3 [.int .i64 p, .int .i64 s])
    (hlo : lost ≤ wi * (l.length - 1)) (hl6 : 0 < l.length ∧ l.length ≤ 6) :
    ∃ M', P4_71 LL q js.length jc x3 (some ⟨mb, 0, none⟩) o l.length oc (lost : Int) (st : Int) M = some (.bool true, M') := by
  have hst := h.st
  have hwi := h.wi
  have hm := h.sys.mem
  obtain ⟨z, rfl, hz, l0, l1⟩ := hj.ld h0
  rw [Nat.zero_mul] at l0
  rw [Nat.zero_mul, Nat.zero_add] at l1
  have hjl := (List.getElem?_eq_some_iff.1 h0).1
  have hg : (0 : Int) ≤ 0 ∧ (0 : Int) < Int.ofNat js.length := by rw [ofN]; omega
  have y0 : M.ld x3 0 = some (.int .i64 p) := h3.ld 0
  have y1 : M.ld x3 1 = some (.int .i64 s) := h3.ld 1
  have hp : wi * (l.length - 1) ≤ 1000 * 5 := Nat.mul_le_mul (by omega) (by omega)
  have hw : IntKind.wrap .i64 ((wi : Int) * IntKind.wrap .i64 (Int.ofNat l.length - 1)) = ((wi * (l.length - 1) : Nat) : Int) := by
    have e : IntKind.wrap .i64 (Int.ofNat l.length - 1) = ((l.length - 1 : Nat) : Int) := by rw [ofN, w64 (by omega)]; omega
    rw [e, ← Int.natCast_mul, w64 (by omega)]
  have hnl : ¬ (lost : Int) > ((wi * (l.length - 1) : Nat) : Int) := by omega
  obtain ⟨_, k⟩ := lay33_spec p s
  obtain ⟨M1, o1, c1, a1, a2, a3, a4⟩ := of33_spec (qc := 0) (hj.es j (List.mem_of_getElem? h0)).1 (by omega)
  have hzl := hz.lt
  have hchk : chkOk [(5, 10)] [(5, z)] [(10, (M, M1))] = true := by simp [chkOk, List.lookup, ver_same a3 hzl (by simp)]
  obtain ⟨M2, v, b1, M', b2⟩ := lost_alone (p := p) (s := s) (jc := jc) (c1 := c1) (p1 := none) hj h0 hm h.len hl ⟨h.sys.lo.1, h.sys.lo.2.1⟩ (by omega) (by omega) a3 a2
  refine ⟨M', ?_⟩
  have hne : ((st : Int) != (st : Int)) = false := bne_self_eq_false _
  rw [P4_71_eq]
  by_cases c1' : l.length = 1
  · have e1 : (Int.ofNat l.length == 1) = true := by rw [ofN, c1']; rfl
    have e2 : lost = 0 := by rw [c1'] at hlo; simpa using hlo
    rw [e1, ifT, ifDn (by omega), bX (wins_spec hm), bI, hw, ifDn hnl, bX (steps_spec hm), bI, hne, ifF, bLI y0, bLI y1, bX k]
    simp only [agg2, Option.bind_some, get0, get1, intOf_int, ↓if_pos hg, Nat.zero_add, ↓bLI l0, ↓bLS l1, ↓bX a1, ↓bS, ↓bX b1, ↓bP, ↓if_pos hchk]
    exact b2
  · have e1 : (Int.ofNat l.length == 1) = false := by rw [ofN]; exact beq_eq_false_iff_ne.2 (by omega)
    rw [e1, ifF, bX (wins_spec hm), bI, hw, ifDn hnl, bX (steps_spec hm), bI, hne, ifF, bLI y0, bLI y1, bX k]
    simp only [agg2, Option.bind_some, get0, get1, intOf_int, ↓if_pos hg, Nat.zero_add, ↓bLI l0, ↓bLS l1, ↓bX a1, ↓bS, ↓bX b1, ↓bP, ↓if_pos hchk]
    exact b2

theorem lost_loop {p s : Int} {q : Option Addr} {js : List Jb} {jc N : Nat} {mb ma x3 : Nat} {o : Option Addr} {oc : Nat} {j : Jb} (h0 : js[0]? = some j) (hl : j.es.length ≤ 24) {w : Option Addr} {wc : Nat} {ord : List Int} (hord : ∀ x ∈ ord, 0 ≤ x ∧ x < 256) (hoL : ord.length ≤ 150) (hwN : 0 < ord.length → ∀ b ∈ blk w, b < N) (hx3 : N ≤ x3 ∧ x3 < mb ∧ x3 < ma) {n : Nat} (hn6 : 0 < n ∧ n ≤ 6) :
    ∀ (d i : Nat) (M : AMem) (L : List Int) (st wi : Nat) (l : List Fl) (lost : Nat), i + d = ord.length → l.length = n → RdI M .u8 w ord.length ord → Jobs N M q js → LI N (szN p s) M mb ma L st wi o l i → Rd M x3 [.int .i64 p, .int .i64 s] → (∀ x ∈ l, x3 ∉ x.bl) → lost + stN L l ≤ wi * (l.length - 1) →
    ∃ M', P4_28 LL q js.length jc w ord.length wc x3 (some ⟨mb, 0, none⟩) o n oc (lost : Int) (st : Int) (i : Int) M = some (.bool true, M') := by
  intro d
  induction d with
  | zero =>
    intro i M L st wi l lost hi hln hr hj h h3 hx3l hlo
    rw [P4_28_eq LL L_loop, ifDn (by rw [ofN]; omega), ← hln]
    exact lost_end (oc := oc) (jc := jc) hj h0 hl h (by omega) h3 (by omega) (by omega)
  | succ d ih =>
    intro i M L st wi l lost hi hln hr hj h h3 hx3l hlo
    have hil : i < ord.length := by omega
    obtain ⟨wb, rfl, hwb⟩ := hr.2 (by omega)
    have hv8 := hord (ord.getD i 0) (by rw [List.getD_eq_getElem?_getD, List.getElem?_eq_getElem hil]; exact List.getElem_mem hil)
    obtain ⟨v, hv'⟩ : ∃ v : Nat, ord.getD i 0 = (v : Int) := ⟨(ord.getD i 0).toNat, by omega⟩
    have hld : M.ld wb i = some (.int .u8 (v : Int)) := by rw [hwb.ld, ints_nat hil, hv']
    have w1 : IntKind.wrap .i64 (v : Int) = (v : Int) := w64 (by omega)
    have hk : v % n < n := Nat.mod_lt _ hn6.1
    have w2 : Int.tmod (v : Int) (Int.ofNat n) = ((v % n : Nat) : Int) := by rw [ofN]; exact Int.ofNat_tmod v n
    generalize hkk : v % n = k at hk w2
    obtain ⟨x, hx⟩ : ∃ x, l[k]? = some x := ⟨_, List.getElem?_eq_getElem (by omega)⟩
    have hxl := List.mem_of_getElem? hx
    have hg0 : ¬ Int.ofNat n = 0 := by rw [ofN]; omega
    have hgi : (0 : Int) ≤ (i : Int) ∧ (i : Int) < Int.ofNat ord.length := by rw [ofN]; omega
    have hgk : (0 : Int) ≤ (k : Int) ∧ (k : Int) < Int.ofNat n := by rw [ofN]; omega
    have hw : IntKind.wrap .i64 ((i : Int) + 1) = ((i + 1 : Nat) : Int) := by rw [w64 (by omega)]; rfl
    obtain ⟨z, rfl, hp⟩ := h.sys.ld hx
    obtain ⟨M1, k1, k2, k3⟩ := h.step (by omega) hx
    have hx' : (l.set k (x.wi (fS L x.s)))[k]? = some (x.wi (fS L x.s)) := List.getElem?_set_self (by omega)
    obtain ⟨z', hz', hp'⟩ := k2.sys.ld hx'
    cases hz'
    have hf' := k2.sys.fl.is _ (List.mem_of_getElem? hx')
    have hgx : Good L.length x.s := by rw [h.len]; exact h.good x hxl
    have hlo' := lost_bound hx hgx hlo
    have hb := h.sys.lo
    have hNx := hb.2.2 x hxl x.f (by simp [Fl.bl])
    have hSN : ∀ b ∈ [x.f, mb, ma], N ≤ b := by
      intro b hb'
      simp only [List.mem_cons, List.not_mem_nil, or_false] at hb'
      rcases hb' with rfl | rfl | rfl <;> omega
    have hx3S : x3 ∉ [x.f, mb, ma] := by
      simp only [List.mem_cons, List.not_mem_nil, or_false, not_or]
      exact ⟨fun e => hx3l x hxl (by simp [Fl.bl, ← e]), by omega, by omega⟩
    have hr1 : RdI M1 .u8 (some ⟨wb, 0, none⟩) ord.length ord := hr.same k3 (fun b hb' hbs => by have := hwN (by omega) b hb'; have := hSN b hbs; omega)
    have q0 := h.st
    have q1 := fT_le L x.s
    have q2 := fLo_le L x.s
    have hls : lost ≤ 1000 := by
      have := h.wi
      have : wi * (l.length - 1) ≤ 150 * 5 := Nat.mul_le_mul (by omega) (by omega)
      omega
    obtain ⟨M', e1⟩ := ih (i + 1) M1 (fL L x.s) _ _ (l.set k (x.wi (fS L x.s))) (lost + fLo L x.s) (by omega) (by simpa using hln) hr1 (hj.same k3 hSN) k2 (h3.same k3 hx3S) (fun y hy => by
      obtain ⟨y', hy', e⟩ := mem_set_wi hx _ hy
      rw [← e]; exact hx3l y' hy') (by rw [List.length_set]; exact hlo')
    refine ⟨M', ?_⟩
    have hlt := (fS_lost L x.s hgx)
    rw [P4_28_eq LL L_loop, ifD hgi.2]
    simp only [↓if_pos hgi, Nat.zero_add, Nat.mul_one, Int.toNat_natCast, ↓bLI hld, ↓if_neg hg0, w1, w2, ↓if_pos hgk, ↓bLP hp, ↓bX (lost_spec (h.sys.fl.is x hxl)), ↓bI, ↓bX (wins_spec h.sys.mem), ↓bX k1, ↓bB]
    by_cases ho : fOver L x.s = true
    · have e2 : fT L x.s = 0 := by simp [fT, ho]
      have e3 : fLo L x.s = 0 := by simp [fLo, ho]
      have hnx : (fS L x.s).adds.length = (fS L x.s).nx := by
        have : fS L x.s = x.s := by unfold fS; rw [if_pos ho]
        rw [this]
        rw [hgx.over, decide_eq_true_eq] at ho
        exact ho
      rw [e2, e3, Nat.add_zero, Nat.add_zero] at e1
      rw [ho]
      simp only [Bool.not_true, ↓ifNF, ↓bLP hp', ↓bX (done_spec hf'), ↓bB]
      have hnx' : decide ((x.wi (fS L x.s)).s.adds.length = (x.wi (fS L x.s)).s.nx) = true := decide_eq_true hnx
      rw [hnx', Bool.not_true, P4_48_eq, ifF, P4_70_eq, hw]
      exact e1
    · have ho' : fOver L x.s = false := by simpa using ho
      have e2 : fT L x.s = 1 := by simp [fT, ho']
      have hw2 : IntKind.wrap .i64 ((st : Int) + 1) = ((st + fT L x.s : Nat) : Int) := by rw [e2, w64 (by omega)]; rfl
      rw [ho']
      simp only [Bool.not_false, ↓ifNT, ↓bLP hp', ↓bX (lost_spec hf'), ↓bI]
      have hl1 : (x.wi (fS L x.s)).s.lost = x.s.lost + fLo L x.s := hlt
      rw [hl1]
      by_cases hlo1 : fLo L x.s = 1
      · have hfw : fW L x.s = 0 := by
          have : stale L x.s = true := by
            unfold fLo at hlo1
            split at hlo1
            · rename_i hh; simp at hh; exact hh.2
            · omega
          have hnc : casB L (fAdd x.s).1 x.s.seen = false := by unfold stale at this; simp at this; exact this.2.2
          simp [fW, fWon, hnc]
        have hw3 : IntKind.wrap .i64 ((lost : Int) + 1) = ((lost + fLo L x.s : Nat) : Int) := by rw [hlo1, w64 (by omega)]; rfl
        have hne : (((wi + fW L x.s : Nat) : Int) != (wi : Int)) = false := by rw [hfw]; simp
        rw [ifD (by omega), bX (wins_spec k2.sys.mem), bI, hne, ifF, hw2, hw3, P4_70_eq, hw]
        exact e1
      · have hlo0 : fLo L x.s = 0 := by omega
        rw [ifDn (by omega), hw2, P4_70_eq, hw]
        rw [hlo0] at e1
        exact e1

end Go.Proofs.Ytmpgngilhhmlcaa
