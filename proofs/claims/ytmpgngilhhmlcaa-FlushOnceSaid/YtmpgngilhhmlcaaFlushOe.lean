/- FlushOnce: the order; each by itself to its end; the end. -/
import Derived.Test.YtmpgngilhhmlcaaFlushOn
set_option linter.unusedVariables false
set_option linter.unusedSimpArgs false
namespace Go.Proofs.Ytmpgngilhhmlcaa
open Go Go.Ax

structure OI (N n : Nat) (M : AMem) (mb ma : Nat) (L : List Int) (st wi : Nat) (o : Option Addr) (l : List Fl) (T x9 : Nat) (W : List Int) (Ad : List (List (Int × Int))) : Prop where
  li : LI N n M mb ma L st wi o l T
  sum : OInv n L l
  ads : l.map (fun x => x.s.adds) = Ad
  w : Cells M x9 (ints .u64 W)
  wx : x9 ≠ mb ∧ x9 ≠ ma ∧ ∀ x ∈ l, x9 ∉ x.bl

theorem OI.step {N n : Nat} {M : AMem} {mb ma : Nat} {L : List Int} {st wi : Nat} {o : Option Addr} {l : List Fl} {T x9 : Nat} {W : List Int} {Ad : List (List (Int × Int))} (h : OI N n M mb ma L st wi o l T x9 W Ad) (hT : T < 100000000) {k : Nat} {x : Fl} (hx : l[k]? = some x) :
    ∃ M', LL.call 13 [pt x.f, pt mb] M = some (.bool (!fOver L x.s), M') ∧ OI N n M' mb ma (fL L x.s) (st + fT L x.s) (wi + fW L x.s) o (l.set k (x.wi (fS L x.s))) (T + 1) x9 W Ad ∧ Same M M' [x.f, mb, ma] := by
  have hxl := List.mem_of_getElem? hx
  obtain ⟨M', k1, k2, k3⟩ := h.li.step hT hx
  obtain ⟨q1, q2, q3⟩ := h.wx
  refine ⟨M', k1, ⟨k2, h.sum.step hx (h.li.good x hxl), ?_, h.w.same k3 ?_, q1, q2, fun y hy => ?_⟩, k3⟩
  · rw [← h.ads, List.map_set]
    refine List.ext_getElem? fun i => ?_
    by_cases e : k = i
    · subst e
      rw [List.getElem?_set_self (by simpa using (List.getElem?_eq_some_iff.1 hx).1), List.getElem?_map, hx]
      simp [Fl.wi, fS_adds]
    · rw [List.getElem?_set_ne e]
  · simp only [List.mem_cons, List.not_mem_nil, or_false, not_or]
    exact ⟨fun e => q3 x hxl (by simp [Fl.bl, e]), q1, q2⟩
  · obtain ⟨z, hz, e⟩ := mem_set_wi hx _ hy
    rw [← e]; exact q3 z hz

theorem once_end {N n : Nat} {M : AMem} {mb ma : Nat} {L : List Int} {st wi : Nat} {o : Option Addr} {oc : Nat} {l : List Fl} {T x9 : Nat} {W : List Int} {Ad : List (List (Int × Int))} (h : OI N n M mb ma L st wi o l T x9 W Ad) (hn : n ≤ 1000) (hd : ∀ x ∈ l, x.s.nx = x.s.adds.length) (hW : WInv n W Ad.flatten) :
    ∃ M', P3_105 LL (some ⟨mb, 0, none⟩) o l.length oc x9 n (l.length : Int) M = some (.bool true, M') := by
  have hLl := h.li.len
  obtain ⟨_, aw⟩ := awake33
  obtain ⟨M1, p, c, k1, k2, k3, k4⟩ := cells_spec h.li.sys.mem (by omega) 0 1000
  have hsub : sub L 0 1000 = L := by
    unfold sub
    rw [if_neg (by omega)]
    show (L.drop 0).take 1000 = L
    rw [List.drop_zero, List.take_of_length_le (by omega)]
  rw [hsub] at k1 k2
  have hw1 : RdI M1 .u64 (some ⟨x9, 0, none⟩) n W := ⟨hW.1, fun _ => ⟨x9, rfl, (h.w.same k3 (by simp)).rd⟩⟩
  have hLW : L = W := winv_eq (h.sum.done hd) hW fun c _ => by rw [h.ads]
  have hsame := same33_spec (c := c) (d := 1) (RdI.of_slc k2) hw1 (by omega)
  refine ⟨M1, ?_⟩
  rw [P3_105_eq]
  have e1 : (Int.ofNat l.length == (l.length : Int)) = true := by rw [ofN]; simp
  rw [e1, ifT, bX k1, bS, bX hsame, bB, decide_eq_true hLW, ifT, bX aw, bB]

/-- One by itself, to its end. -/
theorem run_loop {N n : Nat} {mb ma : Nat} {o : Option Addr} {oc nl : Nat} {x9 : Nat} {W : List Int} {Ad : List (List (Int × Int))} {cnt i : Int} {left k : Nat} {f : Nat} {p : Option Addr} {c0 : Nat} (hk : k < nl) (hi : i = (k : Int)) (hleft : left ≤ 100000) :
    ∀ (c m : Nat) (M : AMem) (L : List Int) (st wi : Nat) (l : List Fl) (T : Nat) (x : Fl), l.length = nl → l[k]? = some x → cost L x.s = c → m + c ≤ 2 * left + 1 → T + c ≤ 1000000 → OI N n M mb ma L st wi o l T x9 W Ad →
    ∃ M' L' st' wi' l' x', P3_88 LL (some ⟨mb, 0, none⟩) o nl oc x9 n cnt i (left : Int) (m : Int) M = P3_97 LL (some ⟨mb, 0, none⟩) o nl oc x9 n cnt i (left : Int) ((m + c : Nat) : Int) M' ∧
      OI N n M' mb ma L' st' wi' o l' (T + c + 1) x9 W Ad ∧ l'.length = nl ∧ l'[k]? = some x' ∧ x'.s.nx = x'.s.adds.length ∧ ∀ k', k' ≠ k → l'[k']? = l[k']? := by
  intro c
  induction c with
  | zero =>
    intro m M L st wi l T x hl hx hc hm hT h
    have hg : Good L.length x.s := by rw [h.li.len]; exact h.li.good x (List.mem_of_getElem? hx)
    have hn := hg.nx
    have hov : fOver L x.s = true := by
      rw [hg.over, decide_eq_true_eq]
      have := (cost_le L x.s).2.1
      omega
    obtain ⟨M', k1, k2, k3⟩ := h.step (by omega) hx
    obtain ⟨z, rfl, hp⟩ := h.li.sys.ld hx
    have hw : IntKind.wrap .i64 (IntKind.wrap .i64 (2 * (left : Int)) + 2) = 2 * (left : Int) + 2 := by rw [w64 (n := 2 * (left : Int)) (by omega), w64 (by omega)]
    have hgk : (0 : Int) ≤ i ∧ i < Int.ofNat nl := by rw [ofN]; omega
    have hit : i.toNat = k := by omega
    have hfs : fS L x.s = x.s := by unfold fS; rw [if_pos hov]
    refine ⟨M', _, _, _, _, _, ?_, k2, by simpa using hl, List.getElem?_set_self (by omega), ?_, fun k' hk' => List.getElem?_set_ne (Ne.symm hk')⟩
    · rw [P3_88_eq LL L_loop, hw, ifD (by omega)]
      simp only [↓if_pos hgk, Nat.zero_add, Nat.mul_one, hit, ↓bLP hp]
      rw [bX k1, bB, hov, Bool.not_true, ifF]
      rfl
    · simp only [Fl.wi, hfs]
      rw [hg.over, decide_eq_true_eq] at hov
      exact hov.symm
  | succ c ih =>
    intro m M L st wi l T x hl hx hc hm hT h
    have hg : Good L.length x.s := by rw [h.li.len]; exact h.li.good x (List.mem_of_getElem? hx)
    have hn := hg.nx
    have hlt : x.s.nx < x.s.adds.length := by
      by_cases h : x.s.nx < x.s.adds.length
      · exact h
      · unfold cost at hc; rw [if_neg h] at hc; omega
    have hov : fOver L x.s = false := by rw [hg.over]; exact decide_eq_false (by omega)
    obtain ⟨M1, k1, k2, k3⟩ := h.step (by omega) hx
    obtain ⟨z, rfl, hp⟩ := h.li.sys.ld hx
    have hw : IntKind.wrap .i64 (IntKind.wrap .i64 (2 * (left : Int)) + 2) = 2 * (left : Int) + 2 := by rw [w64 (n := 2 * (left : Int)) (by omega), w64 (by omega)]
    have hw2 : IntKind.wrap .i64 ((m : Int) + 1) = ((m + 1 : Nat) : Int) := by rw [w64 (by omega)]; rfl
    have hgk : (0 : Int) ≤ i ∧ i < Int.ofNat nl := by rw [ofN]; omega
    have hit : i.toNat = k := by omega
    have hcs := cost_step hg hlt
    have hx' : (l.set k (x.wi (fS L x.s)))[k]? = some (x.wi (fS L x.s)) := List.getElem?_set_self (by omega)
    obtain ⟨M', L', st', wi', l', x', e1, e2, e3, e4, e5, e6⟩ := ih (m + 1) M1 _ _ _ _ _ _ (by simpa using hl) hx' (by show cost (fL L x.s) (fS L x.s) = c; omega) (by omega) (by omega) k2
    refine ⟨M', L', st', wi', l', x', ?_, by rw [show T + (c + 1) + 1 = T + 1 + c + 1 by omega]; exact e2, e3, e4, e5, fun k' hk' => by rw [e6 k' hk', List.getElem?_set_ne (Ne.symm hk')]⟩
    rw [P3_88_eq LL L_loop, hw, ifD (by omega)]
    simp only [↓if_pos hgk, Nat.zero_add, Nat.mul_one, hit, ↓bLP hp]
    rw [bX k1, bB, hov, Bool.not_false, ifT, hw2, e1, show m + 1 + c = m + (c + 1) by omega]

theorem ends_loop {N n : Nat} {mb ma : Nat} {o : Option Addr} {oc nl : Nat} {x9 : Nat} {W : List Int} {Ad : List (List (Int × Int))} (hn : n ≤ 1000) (hW : WInv n W Ad.flatten) (hAd : ∀ A ∈ Ad, A.length ≤ 100) (hnl : nl ≤ 6) :
    ∀ (d i : Nat) (M : AMem) (L : List Int) (st wi : Nat) (l : List Fl) (T : Nat), i + d = nl → l.length = nl → (∀ k x, k < i → l[k]? = some x → x.s.nx = x.s.adds.length) → T + 300 * d ≤ 10000 → OI N n M mb ma L st wi o l T x9 W Ad →
    ∃ M', P3_75 LL (some ⟨mb, 0, none⟩) o nl oc x9 n (nl : Int) (i : Int) M = some (.bool true, M') := by
  intro d
  induction d with
  | zero =>
    intro i M L st wi l T hi hl hd hT h
    rw [P3_75_eq LL L_loop, ifDn (by rw [ofN]; omega), ← hl]
    exact once_end h hn (fun x hx => by
      obtain ⟨k, hk⟩ := List.getElem?_of_mem hx
      exact hd k x (by have := (List.getElem?_eq_some_iff.1 hk).1; omega) hk) hW
  | succ d ih =>
    intro i M L st wi l T hi hl hd hT h
    obtain ⟨x, hx⟩ : ∃ x, l[i]? = some x := ⟨_, List.getElem?_eq_getElem (by omega)⟩
    have hxl := List.mem_of_getElem? hx
    have hg : Good L.length x.s := by rw [h.li.len]; exact h.li.good x hxl
    have hnx := hg.nx
    have hal : x.s.adds.length ≤ 100 := hAd _ (by rw [← h.ads]; exact List.mem_map_of_mem hxl)
    obtain ⟨z, rfl, hp⟩ := h.li.sys.ld hx
    have hgk : (0 : Int) ≤ (i : Int) ∧ (i : Int) < Int.ofNat nl := by rw [ofN]; omega
    have hle := cost_le L x.s
    generalize hleft : x.s.adds.length - x.s.nx = left at hle
    have hleftspec := left_spec (h.li.sys.fl.is x hxl)
    rw [hleft] at hleftspec
    obtain ⟨M1, L1, st1, wi1, l1, x1, e1, e2, e3, e4, e5, e6⟩ := run_loop (oc := oc) (cnt := (nl : Int)) (i := (i : Int)) (left := left) (k := i) (f := 0) (p := none) (c0 := 0) (by omega) rfl (by omega) (cost L x.s) 0 M L st wi l T x hl hx rfl (by omega) (by omega) h
    obtain ⟨z', hz', hp1⟩ := e2.li.sys.ld e4
    cases hz'
    have hw1 : IntKind.wrap .i64 ((i : Int) + 1) = ((i + 1 : Nat) : Int) := by rw [w64 (by omega)]; rfl
    have hw2 : IntKind.wrap .i64 (IntKind.wrap .i64 (2 * (left : Int)) + 1) = 2 * (left : Int) + 1 := by rw [w64 (n := 2 * (left : Int)) (by omega), w64 (by omega)]
    have hw3 : IntKind.wrap .i64 (IntKind.wrap .i64 (2 * (left : Int)) - 1) = 2 * (left : Int) - 1 := by rw [w64 (n := 2 * (left : Int)) (by omega), w64 (by omega)]
    obtain ⟨M', k1⟩ := ih (i + 1) M1 L1 st1 wi1 l1 _ (by omega) e3 (fun k y hk hy => by
      by_cases hki : k = i
      · subst hki
        rw [e4] at hy; cases hy
        exact e5
      · rw [e6 k hki] at hy
        exact hd k y (by omega) hy) (by omega) e2
    have hdn := done_spec (e2.li.sys.fl.is x1 (List.mem_of_getElem? e4))
    rw [decide_eq_true e5.symm] at hdn
    refine ⟨M', ?_⟩
    rw [P3_75_eq LL L_loop, ifD hgk.2]
    simp only [↓if_pos hgk, Nat.zero_add, Nat.mul_one, Int.toNat_natCast, ↓bLP hp, ↓bX hleftspec, ↓bI]
    rw [show (0 : Int) = ((0 : Nat) : Int) from rfl, e1, P3_97_eq]
    simp only [↓if_pos hgk, Nat.zero_add, Nat.mul_one, Int.toNat_natCast, ↓bLP hp1, ↓bX hdn, ↓bB, ↓ifNT, hw2, hw3]
    rw [ifDn (by omega)]
    by_cases hl0 : (left : Int) > 0
    · rw [ifD hl0, ifDn (by omega), P3_104_eq, hw1]
      exact k1
    · rw [ifDn hl0, P3_104_eq, hw1]
      exact k1

theorem ord_loop {N n : Nat} {mb ma : Nat} {o : Option Addr} {oc nl : Nat} {x9 : Nat} {W : List Int} {Ad : List (List (Int × Int))} (hn : n ≤ 1000) (hW : WInv n W Ad.flatten) (hAd : ∀ A ∈ Ad, A.length ≤ 100) (hnl : nl ≤ 6)
    {w : Option Addr} {wc : Nat} {ord : List Int} (hord : ∀ x ∈ ord, 0 ≤ x ∧ x < 256) (hoL : ord.length ≤ 150) (hwN : 0 < ord.length → ∀ b ∈ blk w, b < N) :
    ∀ (d i : Nat) (M : AMem) (L : List Int) (st wi : Nat) (l : List Fl), i + d = ord.length → l.length = nl → RdI M .u8 w ord.length ord → OI N n M mb ma L st wi o l i x9 W Ad →
    ∃ M', P3_60 LL w ord.length wc (some ⟨mb, 0, none⟩) o nl oc x9 n (nl : Int) (i : Int) M = some (.bool true, M') := by
  intro d
  induction d with
  | zero =>
    intro i M L st wi l hi hl hr h
    rw [P3_60_eq LL L_loop, ifDn (by rw [ofN]; omega), P3_71_eq]
    exact ends_loop hn hW hAd hnl nl 0 M L st wi l i (by omega) hl (fun k x hk => by omega) (by omega) h
  | succ d ih =>
    intro i M L st wi l hi hl hr h
    have hil : i < ord.length := by omega
    have hgi : (0 : Int) ≤ (i : Int) ∧ (i : Int) < Int.ofNat ord.length := by rw [ofN]; omega
    rw [P3_60_eq LL L_loop, ifD hgi.2]
    by_cases hn0 : nl = 0
    · rw [ifDn (by rw [ofN]; omega), P3_71_eq]
      exact ends_loop hn hW hAd hnl nl 0 M L st wi l i (by omega) hl (fun k x hk => by omega) (by omega) h
    rw [ifD (by rw [ofN]; omega)]
    obtain ⟨wb, rfl, hwb⟩ := hr.2 (by omega)
    have hv8 := hord (ord.getD i 0) (by rw [List.getD_eq_getElem?_getD, List.getElem?_eq_getElem hil]; exact List.getElem_mem hil)
    obtain ⟨v, hv'⟩ : ∃ v : Nat, ord.getD i 0 = (v : Int) := ⟨(ord.getD i 0).toNat, by omega⟩
    have hld : M.ld wb i = some (.int .u8 (v : Int)) := by rw [hwb.ld, ints_nat hil, hv']
    have w1 : IntKind.wrap .i64 (v : Int) = (v : Int) := w64 (by omega)
    have hk : v % nl < nl := Nat.mod_lt _ (by omega)
    have w2 : Int.tmod (v : Int) (Int.ofNat nl) = ((v % nl : Nat) : Int) := by rw [ofN]; exact Int.ofNat_tmod v nl
    generalize hkk : v % nl = k at hk w2
    obtain ⟨x, hx⟩ : ∃ x, l[k]? = some x := ⟨_, List.getElem?_eq_getElem (by omega)⟩
    have hxl := List.mem_of_getElem? hx
    have hg0 : ¬ Int.ofNat nl = 0 := by rw [ofN]; omega
    have hgk : (0 : Int) ≤ (k : Int) ∧ (k : Int) < Int.ofNat nl := by rw [ofN]; omega
    have hw : IntKind.wrap .i64 ((i : Int) + 1) = ((i + 1 : Nat) : Int) := by rw [w64 (by omega)]; rfl
    obtain ⟨z, rfl, hp⟩ := h.li.sys.ld hx
    obtain ⟨M1, k1, k2, k3⟩ := h.step (by omega) hx
    have hb := h.li.sys.lo
    have hNx := hb.2.2 x hxl x.f (by simp [Fl.bl])
    have hSN : ∀ b ∈ [x.f, mb, ma], N ≤ b := by
      intro b hb'
      simp only [List.mem_cons, List.not_mem_nil, or_false] at hb'
      rcases hb' with rfl | rfl | rfl <;> omega
    have hr1 : RdI M1 .u8 (some ⟨wb, 0, none⟩) ord.length ord := hr.same k3 (fun b hb' hbs => by have := hwN (by omega) b hb'; have := hSN b hbs; omega)
    obtain ⟨M', e1⟩ := ih (i + 1) M1 _ _ _ _ (by omega) (by simpa using hl) hr1 k2
    refine ⟨M', ?_⟩
    simp only [↓if_pos hgi, Nat.zero_add, Nat.mul_one, Int.toNat_natCast, ↓bLI hld, ↓if_neg hg0, w1, w2, ↓if_pos hgk, ↓bLP hp]
    rw [bX k1, bB, P3_70_eq, hw]
    exact e1

end Go.Proofs.Ytmpgngilhhmlcaa
