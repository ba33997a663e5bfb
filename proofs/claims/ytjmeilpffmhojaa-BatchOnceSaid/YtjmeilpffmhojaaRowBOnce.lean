/- BatchOnce: each particle is had once; the row. -/
import Derived.Test.YtjmeilpffmhojaaRows
import Derived.Test.YtjmeilpffmhojaaOnceB
import Derived.Test.YtjmeilpffmhojaaAxArg
set_option linter.unusedVariables false
set_option linter.unusedSimpArgs false
namespace Go.Proofs.Ytjmeilpffmhojaa
open Go Go.Ax

theorem rd_keep {M M' : AMem} {k : IntKind} {o : Option Addr} {n N0 : Nat} {l : List Int} (h : RdI M k o n l) (ho : ∀ x ∈ blk o, 0 < n → x < N0) (hs : ∀ x, x < N0 → M'[x]? = M[x]?) : RdI M' k o n l :=
  ⟨h.1, fun hn => by
    obtain ⟨a, rfl, m, hm⟩ := h.2 hn
    exact ⟨a, rfl, m, by rw [hs a (ho a (by simp) hn)]; exact hm⟩⟩

/-- The ends: each particle, each owner, the cursor. -/
theorem once_end3 {k by_ n wins : Nat} (hk : k ≤ 60) (hb1 : 1 ≤ by_) (hb2 : by_ ≤ 20) {M : AMem} {mb ma : Nat} (hm : ∃ st wi, IsMem M mb ma [(k : Int)] st wi ∧ st ≤ 5000 ∧ wi ≤ 5000) (hw : wins = (k + by_ - 1) / by_) :
    ∃ M', P4_147 LL k by_ (some ⟨mb, 0, none⟩) wins M = some (.bool true, M') := by
  obtain ⟨st, wi, m1, m2, m3⟩ := hm
  obtain ⟨M1, g1, g2, g3⟩ := load_spec m1 (by omega) 0
  have e1 : getI [(k : Int)] 0 = k := by simp [getI, inR]
  rw [e1] at g1
  obtain ⟨_, aw⟩ := awake35
  have hu : IntKind.wrap .u64 (k : Int) = k := wu64 (by omega)
  have hwins : LL.call 23 [.int .i64 (k : Int), .int .i64 (by_ : Int)] [] = some (.int .i64 (wins : Int), []) := by
    rw [L_call23, E23]
    have w1 : IntKind.wrap .i64 ((k : Int) + by_) = (k : Int) + by_ := w64 (by omega)
    have w2 : IntKind.wrap .i64 ((k : Int) + by_ - 1) = ((k + by_ - 1 : Nat) : Int) := by rw [w64 (by omega)]; omega
    have w3 : Int.tdiv ((k + by_ - 1 : Nat) : Int) (by_ : Int) = ((wins : Nat) : Int) := by rw [hw]; exact Int.ofNat_tdiv _ _
    have hle : wins ≤ k + by_ - 1 := by rw [hw]; exact Nat.div_le_self _ _
    have w4 : IntKind.wrap .i64 (wins : Int) = wins := w64 (by omega)
    simp only [show ¬ (k : Int) < 0 by omega, show ¬ (k : Int) > 1048576 by omega, show ¬ (by_ : Int) < 1 by omega, show ¬ (by_ : Int) > 65536 by omega, show ¬ (by_ : Int) = 0 by omega, decide_false, Bool.false_eq_true, if_false, w1, w2, w3, w4]
  rw [P4_147_eq]
  simp only [g1, Option.bind_some, tup2, get0, get1, intOf_int, boolOf_bool, hu, beq_self_eq_true, if_true, hwins, aw]
  exact ⟨_, rfl⟩

theorem once_end2 {k by_ N0 : Nat} {M : AMem} {mb ma hb a : Nat} {qs : List Nat} {ss : List CS} {cur wins T : Nat} (h : OInv k by_ N0 M mb ma hb a qs ss cur wins T) (hq8 : qs.length ≤ 8) (hdone : ∀ (v : Nat) (s : CS), ss[v]? = some s → 1 < s.ph)
    {pm : Option Addr} (hend : ∃ M', P4_147 LL k by_ pm wins M = some (.bool true, M')) :
    ∀ (d i : Nat), i + d = qs.length → ∃ M', P4_130 LL k by_ qs.length pm wins (some ⟨a, 0, none⟩) qs.length 1 i M = some (.bool true, M') := by
  intro d
  induction d with
  | zero =>
    intro i hi
    obtain rfl : i = qs.length := by omega
    rw [P4_130_eq LL L_loop]
    simp only [Int.lt_irrefl, decide_false, Bool.false_eq_true, if_false]
    exact hend
  | succ d ih =>
    intro i hi
    obtain ⟨M', e⟩ := ih (i + 1) (by omega)
    refine ⟨M', ?_⟩
    rw [P4_130_eq LL L_loop]
    have hil : i < qs.length := by omega
    have h1 : (i : Int) < (qs.length : Int) := by omega
    have h2 : (0 : Int) ≤ (i : Int) ∧ (i : Int) < Int.ofNat qs.length := by rw [ofN]; omega
    obtain ⟨q, hq⟩ : ∃ q, qs[i]? = some q := ⟨_, List.getElem?_eq_getElem hil⟩
    obtain ⟨s, hs⟩ : ∃ s, ss[i]? = some s := ⟨_, List.getElem?_eq_getElem (by rw [h.len]; exact hil)⟩
    have hld : M.ld a i = some (pt q) := by rw [h.pa.ld, pt_map hq]
    have hd := done_spec (h.el i q s hq hs).1
    rw [decide_eq_true (hdone i s hs)] at hd
    have hw : IntKind.wrap .i64 ((i : Int) + 1) = ((i + 1 : Nat) : Int) := by rw [w64 (by omega)]; rfl
    simp only [h1, decide_true, if_true, h2, and_self, Nat.zero_add, Nat.mul_one, Int.toNat_natCast, hld, ptrOf_ptr, Option.bind_some, hd, boolOf_bool, Bool.not_true, Bool.false_eq_true, if_false, P4_146_eq, hw]
    exact e

theorem once_end1 {k by_ : Nat} (hk : k ≤ 60) {n wins : Int} {M : AMem} {hb : Nat} (hh : Cells M hb (ints .i64 (hadL k))) {pm pa : Option Addr} {pn pc : Nat}
    (hend : ∃ M', P4_130 LL k by_ n pm wins pa pn pc 0 M = some (.bool true, M')) :
    ∀ (d i : Nat), i + d = 61 → ∃ M', P4_109 LL k by_ n pm hb wins pa pn pc i M = some (.bool true, M') := by
  intro d
  induction d with
  | zero =>
    intro i hi
    obtain rfl : i = 61 := by omega
    rw [P4_109_eq LL L_loop]
    have : ¬ (((61 : Nat) : Int) < 61) := by omega
    simp only [this, decide_false, Bool.false_eq_true, if_false, P4_126_eq]
    exact hend
  | succ d ih =>
    intro i hi
    obtain ⟨M', e⟩ := ih (i + 1) (by omega)
    refine ⟨M', ?_⟩
    rw [P4_109_eq LL L_loop]
    have h1 : (i : Int) < 61 := by omega
    have h2 : (0 : Int) ≤ (i : Int) ∧ (i : Int) < 61 := by omega
    have hld : M.ld hb i = some (.int .i64 (if i < k then 1 else 0)) := by
      rw [hh.ld, ints_get, hadL_get _ _ (by omega)]; rfl
    have hw : IntKind.wrap .i64 ((i : Int) + 1) = ((i + 1 : Nat) : Int) := by rw [w64 (by omega)]; rfl
    by_cases c : i < k
    · rw [if_pos c] at hld
      have h3 : (i : Int) < (k : Int) := by omega
      have h4 : ¬ (i : Int) ≥ (k : Int) := by omega
      simp only [h1, h2, h3, h4, decide_true, decide_false, if_true, and_self, Nat.zero_add, Nat.mul_one, Int.toNat_natCast, hld, intOf_int, Option.bind_some, bne_self_eq_false, Bool.false_eq_true, if_false, P4_125_eq, hw]
      exact e
    · rw [if_neg c] at hld
      have h3 : ¬ (i : Int) < (k : Int) := by omega
      have h4 : (i : Int) ≥ (k : Int) := by omega
      simp only [h1, h2, h3, h4, decide_true, decide_false, if_true, and_self, Nat.zero_add, Nat.mul_one, Int.toNat_natCast, hld, intOf_int, Option.bind_some, bne_self_eq_false, Bool.false_eq_true, if_false, P4_125_eq, hw]
      exact e

/-- Owners' turns, by any order, and then each alone. -/
theorem once_loop {k by_ N0 : Nat} (hk : k ≤ 60) (hb1 : 1 ≤ by_) (hb2 : by_ ≤ 20) {mb ma hb a n : Nat} (hn1 : 1 ≤ n) (hn8 : n ≤ 8) {o : Option Addr} {oc : Nat} {ord : List Int} (hord : ∀ x ∈ ord, 0 ≤ x ∧ x < 256) (hoL : ord.length ≤ 150) (ho : ∀ x ∈ blk o, 0 < ord.length → x < N0) :
    ∀ (d i : Nat) (M : AMem) (qs : List Nat) (ss : List CS) (cur wins T : Nat), i + d = ord.length + n * 200 → qs.length = n → T + d ≤ 4000 → wins ≤ T → RdI M .u8 o ord.length ord → OInv k by_ N0 M mb ma hb a qs ss cur wins T →
      (∀ (v : Nat) (s : CS), ss[v]? = some s → ord.length ≤ i → (v < (i - ord.length) / 200 → 1 < s.ph) ∧ (v = (i - ord.length) / 200 → oms k cur s ≤ 122 - (i - ord.length) % 200)) →
      ∃ M', P4_39 LL o ord.length oc k by_ n (some ⟨mb, 0, none⟩) hb wins (some ⟨a, 0, none⟩) n 1 i M = some (.bool true, M') := by
  intro d
  induction d with
  | zero =>
    intro i M qs ss cur wins T hi hq hT hw hr h hph
    rw [P4_39_eq LL L_loop]
    have w1 : IntKind.wrap .i64 ((n : Int) * 200) = ((n * 200 : Nat) : Int) := by rw [w64 (by omega)]; omega
    have w2 : IntKind.wrap .i64 (Int.ofNat ord.length + ((n * 200 : Nat) : Int)) = ((ord.length + n * 200 : Nat) : Int) := by rw [ofN, w64 (by omega)]; omega
    have h1 : ¬ (i : Int) < ((ord.length + n * 200 : Nat) : Int) := by omega
    simp only [w1, w2, h1, decide_false, Bool.false_eq_true, if_false, P4_105_eq]
    have hdone : ∀ (v : Nat) (s : CS), ss[v]? = some s → 1 < s.ph := fun v s hs => by
      have hv := (List.getElem?_eq_some_iff.1 hs).1
      rw [h.len, hq] at hv
      exact (hph v s hs (by omega)).1 (by omega)
    obtain ⟨s0, hs0⟩ : ∃ s, ss[0]? = some s := ⟨_, List.getElem?_eq_getElem (by rw [h.len]; omega)⟩
    obtain ⟨q0, hq0⟩ : ∃ q, qs[0]? = some q := ⟨_, List.getElem?_eq_getElem (by omega)⟩
    have hck := (h.el 0 q0 s0 hq0 hs0).2.over (hdone 0 s0 hs0)
    obtain rfl : cur = k := by have := h.le; omega
    obtain ⟨st, wi, m1, m2, m3⟩ := h.mem
    have e3 := once_end3 (n := n) hk hb1 hb2 ⟨st, wi, m1, by omega, by omega⟩ (h.win.fin hb1)
    have e2 := once_end2 h (by omega) hdone e3 qs.length 0 (by omega)
    rw [hq] at e2
    exact once_end1 hk h.had e2 61 0 (by omega)
  | succ d ih =>
    intro i M qs ss cur wins T hi hq hT hw hr h hph
    have w1 : IntKind.wrap .i64 ((n : Int) * 200) = ((n * 200 : Nat) : Int) := by rw [w64 (by omega)]; omega
    have w2 : IntKind.wrap .i64 (Int.ofNat ord.length + ((n * 200 : Nat) : Int)) = ((ord.length + n * 200 : Nat) : Int) := by rw [ofN, w64 (by omega)]; omega
    have h1 : (i : Int) < ((ord.length + n * 200 : Nat) : Int) := by omega
    have wi1 : IntKind.wrap .i64 ((i : Int) + 1) = ((i + 1 : Nat) : Int) := by rw [w64 (by omega)]; rfl
    have hn0 : ¬ ((n : Int) = 0) := by omega
    by_cases c : i < ord.length
    · have c' : (i : Int) < Int.ofNat ord.length := by rw [ofN]; omega
      have h0 : (0 : Int) ≤ (i : Int) := by omega
      obtain ⟨ob, rfl, hob⟩ := hr.2 (by omega)
      have hv8 := hord (ord.getD i 0) (by rw [List.getD_eq_getElem?_getD, List.getElem?_eq_getElem c]; exact List.getElem_mem c)
      obtain ⟨v, hv'⟩ : ∃ v : Nat, ord.getD i 0 = (v : Int) := ⟨(ord.getD i 0).toNat, by omega⟩
      have hld : M.ld ob i = some (.int .u8 (v : Int)) := by rw [hob.ld, ints_nat c, hv']
      have x1 : IntKind.wrap .i64 (v : Int) = (v : Int) := w64 (by omega)
      have x2 : Int.tmod (v : Int) (n : Int) = ((v % n : Nat) : Int) := Int.ofNat_tmod v n
      have hlt : v % n < qs.length := by rw [hq]; exact Nat.mod_lt _ (by omega)
      obtain ⟨M', qs', s, s', cur', wins', g1, g2, g3, g4, g5, g6, g7⟩ := once_body (o := some ⟨ob, 0, none⟩) (on := ord.length) (oc := oc) (n := (n : Int)) (i := (i : Int)) hk hb1 hb2 h (by omega) hw hlt
      rw [hq] at g1
      obtain ⟨M2, e⟩ := ih (i + 1) M' qs' _ cur' wins' (T + 1) (by omega) (by omega) (by omega) (by omega) (rd_keep hr ho g7) g4 (fun v s hs hle => by
        have : i + 1 - ord.length = 0 := by omega
        rw [this]
        exact ⟨fun h => absurd h (by omega), fun _ => by have := oms_le (cur := cur') (s := s) hk; omega⟩)
      refine ⟨M2, ?_⟩
      rw [P4_39_eq LL L_loop]
      simp only [w1, w2, h1, c', h0, and_self, decide_true, if_true, Nat.zero_add, Nat.mul_one, Int.toNat_natCast, hld, intOf_int, Option.bind_some, hn0, if_false, x1, x2, g1, P4_104_eq, wi1]
      exact e
    · have c' : ¬ (i : Int) < Int.ofNat ord.length := by rw [ofN]; omega
      have x1 : IntKind.wrap .i64 ((i : Int) - Int.ofNat ord.length) = ((i - ord.length : Nat) : Int) := by rw [ofN, w64 (by omega)]; omega
      have x2 : (if ((i - ord.length : Nat) : Int) > 0 then ((i - ord.length : Nat) : Int) else 0) = ((i - ord.length : Nat) : Int) := by split <;> omega
      have x3 : Int.tdiv ((i - ord.length : Nat) : Int) 200 = (((i - ord.length) / 200 : Nat) : Int) := Int.ofNat_tdiv _ 200
      have x4 : IntKind.wrap .i64 (((i - ord.length) / 200 : Nat) : Int) = (((i - ord.length) / 200 : Nat) : Int) := w64 (by omega)
      have hlt : (i - ord.length) / 200 < qs.length := by rw [hq]; omega
      obtain ⟨M', qs', s, s', cur', wins', g1, g2, g3, g4, g5, g6, g7⟩ := once_body (o := o) (on := ord.length) (oc := oc) (n := (n : Int)) (i := (i : Int)) hk hb1 hb2 h (by omega) hw hlt
      rw [hq] at g1
      obtain ⟨q, hqq⟩ : ∃ q, qs[(i - ord.length) / 200]? = some q := ⟨_, List.getElem?_eq_getElem hlt⟩
      have hok := (h.el _ q s hqq g2).2
      have hnx := oms_next (by_ := by_) hok hb1 h.le
      have hok2 := onx_ok (by_ := by_) hok hb1 h.le
      rw [← g3] at hnx hok2
      simp only at hnx hok2
      have hph1 := (hph _ s g2 (by omega)).2 rfl
      obtain ⟨M2, e⟩ := ih (i + 1) M' qs' _ cur' wins' (T + 1) (by omega) (by omega) (by omega) (by omega) (rd_keep hr ho g7) g4 (fun v s2 hs2 hle => by
        have et : i + 1 - ord.length = (i - ord.length) + 1 := by omega
        rw [et]
        generalize i - ord.length = t at *
        by_cases ev : v = t / 200
        · subst ev
          rw [List.getElem?_set_self (by rw [h.len]; exact hlt)] at hs2; cases hs2
          refine ⟨fun hlt2 => oms_zero hok2.1 ?_, fun he => ?_⟩
          · omega
          · omega
        · rw [List.getElem?_set_ne (Ne.symm ev)] at hs2
          refine ⟨fun hlt2 => (hph v s2 hs2 (by omega)).1 (by omega), fun he => ?_⟩
          have := oms_le (cur := cur') (s := s2) hk
          omega)
      refine ⟨M2, ?_⟩
      rw [P4_39_eq LL L_loop]
      simp only [w1, w2, h1, c', decide_true, decide_false, Bool.false_eq_true, if_true, if_false, x1, x2, x3, x4, g1, P4_104_eq, wi1]
      exact e

/-- The claims made so far. -/
structure OBld (k by_ N0 : Nat) (M : AMem) (mb ma hb : Nat) (pa : Option Addr) (ca : Nat) (qs : List Nat) : Prop where
  mem : IsMem M mb ma [0] 0 0
  had : Cells M hb (ints .i64 (hadL 0))
  sa : Slc M 1 pa qs.length ca (qs.map pt)
  el : ∀ q ∈ qs, Cells M q (encC k by_ .init)
  nd : (mb :: ma :: hb :: qs).Nodup
  na : ∀ x ∈ blk pa, x ∉ (mb :: ma :: hb :: qs)
  ge : ∀ x ∈ (mb :: ma :: hb :: qs), N0 ≤ x
  gea : ∀ x ∈ blk pa, N0 ≤ x
  le0 : N0 ≤ M.length

theorem obld_loop {k by_ N0 : Nat} (hk : k ≤ 60) (hb1 : 1 ≤ by_) (hb2 : by_ ≤ 20) {mb ma hb n : Nat} (hn1 : 1 ≤ n) (hn8 : n ≤ 8) {o : Option Addr} {oc : Nat} {ord : List Int} (hord : ∀ x ∈ ord, 0 ≤ x ∧ x < 256) (hoL : ord.length ≤ 150) (ho : ∀ x ∈ blk o, 0 < ord.length → x < N0) :
    ∀ (d j : Nat) (M : AMem) (pa : Option Addr) (ca : Nat) (qs : List Nat), j + d = n → qs.length = j → RdI M .u8 o ord.length ord → OBld k by_ N0 M mb ma hb pa ca qs →
      ∃ M', P4_24 LL o ord.length oc k by_ n (some ⟨mb, 0, none⟩) hb 0 pa j ca j M = some (.bool true, M') := by
  intro d
  induction d with
  | zero =>
    intro j M pa ca qs hj hq hr h
    obtain rfl : j = n := by omega
    obtain ⟨a, rfl, ha⟩ := h.sa.pos (by omega)
    have c1 : ca = 1 := by
      rcases h.sa.2 with ⟨e, _⟩ | ⟨_, _, e, _⟩
      · cases e
      · exact e
    subst c1
    have hna := h.na a (by simp)
    have nd := h.nd
    simp only [List.nodup_cons, List.mem_cons, not_or] at nd hna
    obtain ⟨⟨d1, d2, d4⟩, ⟨d5, d7⟩, d9, d11⟩ := nd
    obtain ⟨a1, a2, a3, a4⟩ := hna
    have hinv : OInv k by_ N0 M mb ma hb a qs (List.replicate qs.length .init) 0 0 0 := ⟨⟨0, 0, h.mem, by omega, by omega⟩, h.had, ha, by simp, fun i q s h1 h2 => by
        obtain rfl := (List.mem_replicate.1 (List.mem_of_getElem? h2)).2
        exact ⟨h.el q (List.mem_of_getElem? h1), ⟨fun e => by simp [CS.init] at e, by simp [CS.init], ⟨rfl, rfl⟩, fun e => by simp [CS.init] at e⟩⟩,
      ⟨by simp, .inl rfl⟩, by omega, by
        simp only [List.nodup_cons, List.mem_cons, not_or]
        exact ⟨⟨d1, d2, Ne.symm a1, d4⟩, ⟨d5, Ne.symm a2, d7⟩, ⟨Ne.symm a3, d9⟩, a4, d11⟩, fun x hx => by
        simp only [List.mem_cons] at hx
        rcases hx with rfl | rfl | rfl | rfl | hx
        · exact h.ge _ (by simp)
        · exact h.ge _ (by simp)
        · exact h.ge _ (by simp)
        · exact h.gea _ (by simp)
        · exact h.ge _ (by simp [hx]), h.le0⟩
    rw [P4_24_eq LL L_loop]
    simp only [Int.lt_irrefl, decide_false, Bool.false_eq_true, if_false, P4_35_eq]
    exact once_loop hk hb1 hb2 hn1 hn8 hord hoL ho (ord.length + j * 200) 0 M qs _ 0 0 0 (by omega) hq (by omega) (by omega) hr hinv (fun v s hs hle => by
      have : 0 - ord.length = 0 := by omega
      rw [this]
      exact ⟨fun h => absurd h (by omega), fun _ => by have := oms_le (cur := 0) (s := s) hk; omega⟩)
  | succ d ih =>
    intro j M pa ca qs hj hq hr h
    have hf : CFit (k : Int) (by_ : Int) := ⟨by omega, by omega, by omega, by omega⟩
    obtain ⟨M1, n1, n2, n3, n4⟩ := bnew_spec hf M
    obtain ⟨M2, k1, k2, k3, k4⟩ := append_row (bytes := 8) (v := 0) (m := 1) (new := [pt M.length]) (h.sa.same n3 (by simp)) (by simp) (by omega) (by rw [hq]; omega)
    have row1 := rowOf_new M1 1 1 [pt M.length] 0 1 (by simp)
    have la := h.sa.lt
    have hall : Same M M2 (blk pa) := (n3.trans k3).mono (by simp)
    have fl : ∀ x, x ∈ (mb :: ma :: hb :: qs) → x < M.length := fun x hx => by
      simp only [List.mem_cons] at hx
      rcases hx with rfl | rfl | rfl | hx
      · exact h.mem.hd.lt
      · exact h.mem.cs.lt
      · exact h.had.lt
      · exact (h.el x hx).lt
    have fa : ∀ x, x ∈ (mb :: ma :: hb :: qs) → x ∉ blk pa := fun x hx hb => h.na x hb hx
    have l2 := k3.le
    have l0 := h.le0
    have hb' : OBld k by_ N0 M2 mb ma hb (some ⟨M1.length + 1, 0, none⟩) 1 (qs ++ [M.length]) := by
      refine ⟨h.mem.same hall (fa _ (by simp)) (fa _ (by simp)), h.had.same hall (fa _ (by simp)), ?_, fun q hq => ?_, ?_, ?_, ?_, ?_, by omega⟩
      · rw [List.map_append, List.length_append]; exact k2
      · rcases List.mem_append.1 hq with hq | hq
        · exact (h.el q hq).same hall (fa _ (by simp [hq]))
        · obtain rfl := List.mem_singleton.1 hq
          exact n2.same k3 fun hx => by have := la _ hx; omega
      · have := h.nd
        rw [show mb :: ma :: hb :: (qs ++ [M.length]) = (mb :: ma :: hb :: qs) ++ [M.length] by simp, List.nodup_append]
        exact ⟨this, by simp, fun x hx y hy => by obtain rfl := List.mem_singleton.1 hy; have := fl x hx; omega⟩
      · intro x hx hm
        simp at hx
        rw [show mb :: ma :: hb :: (qs ++ [M.length]) = (mb :: ma :: hb :: qs) ++ [M.length] by simp] at hm
        rcases List.mem_append.1 hm with hm | hm
        · have := fl x hm; omega
        · have := List.mem_singleton.1 hm; omega
      · intro x hm
        rw [show mb :: ma :: hb :: (qs ++ [M.length]) = (mb :: ma :: hb :: qs) ++ [M.length] by simp] at hm
        rcases List.mem_append.1 hm with hm | hm
        · exact h.ge x hm
        · have := List.mem_singleton.1 hm; omega
      · intro x hx; simp at hx; omega
    have hr2 : RdI M2 .u8 o ord.length ord := rd_keep hr ho fun x hx => hall.get x (by omega) (fun hm => by have := h.gea x hm; omega)
    obtain ⟨M', e⟩ := ih (j + 1) M2 _ _ _ (by omega) (by simp [hq]) hr2 hb'
    refine ⟨M', ?_⟩
    have hlt : (j : Int) < (n : Int) := by omega
    have wj : IntKind.wrap .i64 ((j : Int) + 1) = ((j + 1 : Nat) : Int) := by rw [w64 (by omega)]; rfl
    rw [P4_24_eq LL L_loop]
    rw [hq] at k1
    simp only [hlt, decide_true, if_true, n1, ptrOf_ptr, Option.bind_some, row1, k1, P4_34_eq, wj]
    exact e

theorem bonce (M : AMem) (al sz n : Int) (o : Option Addr) (oc : Nat) (ord : List Int) (ha : 0 ≤ al ∧ al ≤ 255) (hz : 0 ≤ sz ∧ sz ≤ 255) (hn : 0 ≤ n ∧ n ≤ 255)
    (hr : RdI M .u8 o ord.length ord) (hord : ∀ x ∈ ord, 0 ≤ x ∧ x < 256) (ho : ∀ x ∈ blk o, 0 < ord.length → x < M.length) :
    ∃ M', LL.call 4 [.int .u8 al, .int .u8 sz, .int .u8 n, .slice o ord.length oc] M = some (.bool true, M') := by
  rw [L_call4, E4]
  obtain ⟨_, aw⟩ := awake35
  by_cases hlen : Int.ofNat ord.length > 150
  · simp only [hlen, decide_true, if_true, aw, Option.bind_some, boolOf_bool]; exact ⟨_, rfl⟩
  obtain ⟨M1, mb, ma, c1, c2, c3, c4, c5, c6, c7⟩ := new_spec 1 M (by omega)
  have e1 : IntKind.wrap .i64 al = al := w64 (by omega)
  have e2 : IntKind.wrap .i64 sz = sz := w64 (by omega)
  have e3 : IntKind.wrap .i64 n = n := w64 (by omega)
  have t1 : Int.tmod al 61 = ((al.toNat % 61 : Nat) : Int) := by rw [Int.tmod_eq_emod_of_nonneg (by omega)]; omega
  have t2 : Int.tmod sz 20 = ((sz.toNat % 20 : Nat) : Int) := by rw [Int.tmod_eq_emod_of_nonneg (by omega)]; omega
  have t3 : Int.tmod n 8 = ((n.toNat % 8 : Nat) : Int) := by rw [Int.tmod_eq_emod_of_nonneg (by omega)]; omega
  have t4 : IntKind.wrap .i64 (1 + ((sz.toNat % 20 : Nat) : Int)) = ((1 + sz.toNat % 20 : Nat) : Int) := by rw [w64 (by omega)]; omega
  have t5 : IntKind.wrap .i64 (1 + ((n.toNat % 8 : Nat) : Int)) = ((1 + n.toNat % 8 : Nat) : Int) := by rw [w64 (by omega)]; omega
  have g0 := cells_new M1 (ints .i64 (hadL 0)) 0
  have s0 := same_app M1 [AObj.cells (ints .i64 (hadL 0)) ⟨false, 0⟩]
  have hne := c2.ne
  obtain ⟨M', e⟩ := obld_loop (k := al.toNat % 61) (by_ := 1 + sz.toNat % 20) (n := 1 + n.toNat % 8) (oc := oc) (by omega) (by omega) (by omega) (by omega) (by omega) hord (by rw [ofN] at hlen; omega) ho (1 + n.toNat % 8) 0 (M1 ++ [AObj.cells (ints .i64 (hadL 0)) ⟨false, 0⟩]) none 0 [] (by omega) rfl
    (hr.same (S := []) ((c3.trans s0).mono (by simp)) (by simp)) ⟨IsMem.same (L := [0]) c2 s0 (by simp) (by simp), g0, .nil _ _ _, by simp, by simp; omega, by simp, by simp; omega, by simp, by simp; have := c3.le; omega⟩
  refine ⟨M', ?_⟩
  simp only [hlen, decide_false, Bool.false_eq_true, if_false, c1, Option.bind_some, ptrOf_ptr, e1, e2, e3, t1, t2, t3, t4, t5]
  exact e

open Go.ChangeShapes Go.WideShapes Go.ChangeAt Go.RowKit

theorem bonce_main (A : AMem) (vs : List Value) (h : HoldsA A [(false, [.int .u8]), (false, [.int .u8]), (false, [.int .u8]), (false, [.slice [.int .u8]])] vs) :
    ∃ A', (lim env).call 4 vs A = some (.bool true, A') := by
  obtain ⟨_, _, rfl, ha, _, _, rfl, hz, _, _, rfl, hn, _, _, rfl, hs, rfl⟩ := h
  simp only [HoldsV, HoldsL, Holds, Bool.false_eq_true, if_false] at ha hz hn
  unfold HoldsV at hs
  rw [if_neg (by simp)] at hs
  obtain ⟨_, _, e, ⟨all, rfl, ha⟩, rfl⟩ := ha; cases e
  obtain ⟨_, _, e, ⟨size, rfl, hz⟩, rfl⟩ := hz; cases e
  obtain ⟨_, _, e, ⟨n, rfl, hn⟩, rfl⟩ := hn; cases e
  obtain ⟨v', _, e, hs, h'⟩ := holdsL_cons hs
  cases e
  obtain ⟨p, l, rfl, h1, h2, h3⟩ := holds_list (fun x => [Value.int .u8 x]) (fun x => (Lit.int .u8 x).wf = true) (by simp) hs fun cs hc => by
    simp only [HoldsL, Holds] at hc
    obtain ⟨_, _, rfl, ⟨x0, rfl, hx⟩, rfl⟩ := hc
    exact ⟨x0, hx, rfl⟩
  have := bonce A all size n p 0 l (bounds_u8 ha) (bounds_u8 hz) (bounds_u8 hn) h1.rdI (fun x hx => by have := bounds_u8 (h2 x hx); omega) (fun x hx h0 => h1.lt h0 x hx)
  rw [LL_lim] at this
  exact this

theorem batchOnce_lifted (os : Os) (started : os.Started) (H : Type) (enc : TypeId × Value → H) :
    ReturnsInHanded {} Try.checked os 4 .any (Rows.batchOnceSpec.pre6 enc Try.prog Try.f4 Rows.batchOnceRow.domain false) (Rows.batchOnceSpec.post enc Try.prog Try.f4 false true false false) :=
  lifted_of_args (C := Try.checked) (E := env) (by kernel_rfl) started (by kernel_rfl) Try.func4
    (ChangeSpec.witness6 (enc := enc) (C := Try.checked) false ⟨#[], #[.int .u8 0, .int .u8 0, .int .u8 0, .slice none 0 0], []⟩ 8 (by kernel_rfl) (by kernel_rfl) (by kernel_rfl) (by kernel_rfl))
    (by kernel_rfl) (by kernel_rfl) (by kernel_rfl : Try.f4.resultTypes = #[4]) (by kernel_rfl) rfl
    (fun ds hd => by
      match ds, hd with
      | [d1, d2, d3, d4], _ => rfl) envOk (by kernel_rfl) (by kernel_rfl) bonce_main

theorem batchOnce_holds : Rows.BatchOnceSaid :=
  OpenClaim.holds_of_wide 4 Try.f4 rfl rfl rfl rfl rfl rfl rfl ⟨rfl, rfl, rfl, rfl, rfl⟩ rfl rfl rfl rfl rfl (by kernel_rfl) Try.func4 (by kernel_rfl)
    (of_decide_eq_true (by kernel_rfl)) (by unfold Func.isWrapper; rw [if_neg (of_decide_eq_false (by kernel_rfl))]; exact ⟨rfl, rfl⟩)
    (fun os started H enc _ => batchOnce_lifted os started H enc)


end Go.Proofs.Ytjmeilpffmhojaa
