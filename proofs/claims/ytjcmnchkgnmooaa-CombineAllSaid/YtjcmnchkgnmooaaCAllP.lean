/- CombineAll: what goes in and out, step by step. -/
import Derived.Test.YtjcmnchkgnmooaaCombS
import Derived.Test.YtjcmnchkgnmooaaEqCAll
set_option linter.unusedVariables false
set_option linter.unusedSimpArgs false
namespace Go.Proofs.Ytjcmnchkgnmooaa
open Go Go.Ax

/-! ### the plain law -/

def esum (es : List En) (c : Nat) : Int := (es.map fun e => if e.px = (c : Int) then e.w1 else 0).sum

theorem esum_nil (c : Nat) : esum [] c = 0 := rfl
theorem esum_cons (e : En) (es : List En) (c : Nat) : esum (e :: es) c = (if e.px = (c : Int) then e.w1 else 0) + esum es c := by simp [esum]
theorem esum_app (a b : List En) (c : Nat) : esum (a ++ b) c = esum a c + esum b c := by simp [esum]

theorem esum_split (f : En → Bool) (c : Nat) : ∀ es : List En, esum es c = esum (es.filter f) c + esum (es.filter fun e => !f e) c
  | [] => rfl
  | e :: es => by
    have ih := esum_split f c es
    rw [esum_cons, ih]
    cases h : f e with
    | true => rw [List.filter_cons_of_pos h, List.filter_cons_of_neg (by simp [h]), esum_cons]; omega
    | false => rw [List.filter_cons_of_neg (by simp [h]), List.filter_cons_of_pos (by simp [h]), esum_cons]; omega

theorem esum_set (c : Nat) {e' : En} : ∀ {es : List En} {i : Nat} {e : En}, es[i]? = some e → esum (es.set i e') c = esum es c - (if e.px = (c : Int) then e.w1 else 0) + (if e'.px = (c : Int) then e'.w1 else 0)
  | [], i, e, h => by simp at h
  | a :: es, 0, e, h => by
    simp only [List.getElem?_cons_zero, Option.some.injEq] at h
    subst h
    rw [List.set_cons_zero, esum_cons, esum_cons]; omega
  | a :: es, i + 1, e, h => by
    simp only [List.getElem?_cons_succ] at h
    rw [List.set_cons_succ, esum_cons, esum_cons, esum_set c h]; omega

theorem u64wrap (x : Int) : IntKind.wrap .u64 x = x % 18446744073709551616 := by
  unfold IntKind.wrap
  simp [IntKind.bits, IntKind.signed]

theorem getD_seti {W : List Int} {i : Nat} (hi : i < W.length) (v : Int) (c : Nat) : (W.set i v).getD c 0 = if c = i then v else W.getD c 0 := by
  rw [List.getD_eq_getElem?_getD, List.getD_eq_getElem?_getD]
  by_cases e : c = i
  · subst e
    rw [List.getElem?_set_self hi, if_pos rfl]; rfl
  · rw [List.getElem?_set_ne (fun h => e h.symm), if_neg e]

def Rg (O : List Int) : Prop := O.length = 64 ∧ ∀ c, c < 64 → 0 ≤ O.getD c 0 ∧ O.getD c 0 < 18446744073709551616

/-- What was put is what is there and what was taken. -/
def Bal (I O : List Int) (es : List En) : Prop := I.length = 64 ∧ Rg O ∧ ∀ c, c < 64 → I.getD c 0 = (O.getD c 0 + esum es c) % 18446744073709551616

theorem Bal.put {I O : List Int} {es es' : List En} {px r g bl : Int} (h : Bal I O es) (hp : PutR px r g bl es es') {i : Nat} (hi : px = (i : Int)) (hil : i < 64) : Bal (I.set i (IntKind.wrap .u64 (I.getD i 0 + IntKind.wrap .u64 g))) O es' := by
  obtain ⟨h1, h2, h3⟩ := h
  refine ⟨by rw [List.length_set]; exact h1, h2, fun c hc => ?_⟩
  have hb := h3 c hc
  rw [getD_seti (by omega)]
  rcases hp with ⟨k, e, he, hepx, rfl⟩ | ⟨_, rfl⟩
  · rw [esum_set c he]
    have e1 : (wadd e r g bl).px = e.px := rfl
    have e2 : (wadd e r g bl).w1 = wad e.w1 g := rfl
    rw [e1, e2, hepx, hi]
    by_cases ec : c = i
    · subst ec
      rw [if_pos rfl, if_pos rfl, if_pos rfl, hb]
      unfold wad
      rw [u64wrap, u64wrap, u64wrap]
      omega
    · rw [if_neg ec, if_neg (by omega), if_neg (by omega), hb]
      omega
  · rw [esum_app, esum_cons, esum_nil]
    have e1 : (wadd ⟨px, 0, 0, 0⟩ r g bl).px = px := rfl
    have e2 : (wadd ⟨px, 0, 0, 0⟩ r g bl).w1 = wad 0 g := rfl
    rw [e1, e2, hi]
    by_cases ec : c = i
    · subst ec
      rw [if_pos rfl, if_pos rfl, hb]
      unfold wad
      rw [u64wrap, u64wrap, u64wrap]
      omega
    · rw [if_neg ec, if_neg (by omega), hb]
      omega

/-- What is taken out. -/
def Ou (O O' : List Int) (t : List En) : Prop := Rg O' ∧ ∀ c, c < 64 → O'.getD c 0 = (O.getD c 0 + esum t c) % 18446744073709551616

theorem Ou.nil {O : List Int} (h : Rg O) : Ou O O [] := ⟨h, fun c hc => by have := h.2 c hc; rw [esum_nil]; omega⟩

theorem Ou.cons {O O' : List Int} {e : En} {t : List En} {i : Nat} (hO : O.length = 64) (hi : e.px = (i : Int)) (hil : i < 64) (h : Ou (O.set i (IntKind.wrap .u64 (O.getD i 0 + e.w1))) O' t) : Ou O O' (e :: t) := by
  refine ⟨h.1, fun c hc => ?_⟩
  have := h.2 c hc
  rw [getD_seti (by omega)] at this
  rw [this, esum_cons, hi]
  by_cases ec : c = i
  · subst ec
    rw [if_pos rfl, if_pos rfl, u64wrap]
    omega
  · rw [if_neg ec, if_neg (by omega)]
    congr 1; omega

theorem Rg.set {O : List Int} (h : Rg O) (i : Nat) (v : Int) : Rg (O.set i (IntKind.wrap .u64 v)) := by
  refine ⟨by rw [List.length_set]; exact h.1, fun c hc => ?_⟩
  by_cases hi : i < O.length
  · rw [getD_seti hi]
    split
    · rw [u64wrap]; omega
    · exact h.2 c hc
  · rw [List.set_eq_of_length_le (by omega)]; exact h.2 c hc

theorem Bal.take {I O O' : List Int} {es : List En} {f : En → Bool} (h : Bal I O es) (k : Ou O O' (es.filter f)) : Bal I O' (es.filter fun e => !f e) := by
  obtain ⟨h1, h2, h3⟩ := h
  refine ⟨h1, k.1, fun c hc => ?_⟩
  rw [h3 c hc, k.2 c hc, esum_split f c es]
  omega

theorem Bal.fin {I O : List Int} (h : Bal I O []) : I = O := by
  obtain ⟨h1, ⟨h2, h4⟩, h3⟩ := h
  refine List.ext_getElem (by rw [h1, h2]) fun c hc1 hc2 => ?_
  have a := h3 c (by omega)
  have b := h4 c (by omega)
  rw [esum_nil] at a
  rw [List.getD_eq_getElem?_getD, List.getElem?_eq_getElem hc1, Option.getD_some] at a
  rw [List.getD_eq_getElem?_getD, List.getElem?_eq_getElem hc2, Option.getD_some] at a b
  omega

/-! ### the loops over what was taken -/

theorem e1_ld {M : AMem} {z : Nat} {t : List En} (h : Rd M z (t.flatMap encE)) {k : Nat} {e : En} (he : t[k]? = some e) : M.ld z (k * 4) = some (.int .i64 e.px) ∧ M.ld z (k * 4 + 1 + 1) = some (.int .u64 e.w1) := by
  obtain ⟨a, b, c, d⟩ := ent_ld h he
  exact ⟨a, c⟩

theorem in_loop {x2 : Option Addr} {x2n x2c x3 : Nat} {x7 : Int} {x8 : Option Addr} {x9 x10 : Nat} {x11 : Int} {x12 : Nat} {x13 : Option Addr} {x13c : Nat} {p s st : Int} {t : List En} (hp : p ≤ 64) (hs : s ≠ 0) (ht : ∀ e ∈ t, (0 ≤ e.px ∧ e.px < p) ∧ Int.tmod e.px s = st) (htl : t.length ≤ 5000) (h103 : x3 ≠ x10 ∧ x12 ≠ x10 ∧ ∀ z ∈ blk x13, z ≠ x10) :
    ∀ (d k : Nat) (M : AMem) (O : List Int), k + d = t.length → Slc M 4 x13 t.length x13c (t.flatMap encE) → Rd M x3 [.int .i64 p, .int .i64 s] → M.ld x12 5 = some (.int .i64 st) → x12 < M.length → Cells M x10 (ints .u64 O) → Rg O →
    ∃ M' O', P3_57 LL x2 x2n x2c x3 x7 x8 x9 x10 x11 x12 x13 t.length x13c (k : Int) M = P3_76 LL x2 x2n x2c x3 x7 x8 x9 x10 x11 x12 M' ∧ Cells M' x10 (ints .u64 O') ∧ Ou O O' (t.drop k) ∧ Same M M' [x10] := by
  intro d
  induction d with
  | zero =>
    intro k M O hk hsl h3 h12 hx12 hO hR
    rw [P3_57_eq LL L_loop, ifDn (by rw [ofN]; omega), List.drop_eq_nil_of_le (by omega)]
    exact ⟨M, O, rfl, hO, .nil hR, .refl _ _⟩
  | succ d ih =>
    intro k M O hk hsl h3 h12 hx12 hO hR
    have hkl : k < t.length := by omega
    obtain ⟨e, he⟩ : ∃ e, t[k]? = some e := ⟨_, List.getElem?_eq_getElem hkl⟩
    obtain ⟨⟨hp0, hp1⟩, htm⟩ := ht e (List.mem_of_getElem? he)
    obtain ⟨i, hi⟩ : ∃ i : Nat, e.px = (i : Int) := ⟨e.px.toNat, by omega⟩
    have hd : t.drop k = e :: t.drop (k + 1) := by rw [List.drop_eq_getElem_cons hkl]; congr 1; exact (List.getElem?_eq_some_iff.1 he).2
    obtain ⟨z, rfl, hz⟩ := hsl.pos (by omega)
    obtain ⟨l0, l2⟩ := e1_ld hz.rd he
    have hg : (0 : Int) ≤ (k : Int) ∧ (k : Int) < Int.ofNat t.length := by rw [ofN]; omega
    have hw : IntKind.wrap .i64 ((k : Int) + 1) = ((k + 1 : Nat) : Int) := by rw [w64 (by omega)]; rfl
    have y0 : M.ld x3 0 = some (.int .i64 p) := h3.ld 0
    have y1 : M.ld x3 1 = some (.int .i64 s) := h3.ld 1
    have hOl := hR.1
    have lo : M.ld x10 i = some (.int .u64 (O.getD i 0)) := by rw [hO.ld, ints_nat (by omega)]
    have hg64 : (0 : Int) ≤ e.px ∧ e.px < 64 := by omega
    obtain ⟨M1, w1, w2, w3, w4⟩ := hO.wr (o := i) (vs := [.int .u64 (IntKind.wrap .u64 (O.getD i 0 + e.w1))]) (by rw [ints_length, List.length_singleton]; omega)
    have w2' : Cells M1 x10 (ints .u64 (O.set i (IntKind.wrap .u64 (O.getD i 0 + e.w1)))) := by
      have : wrL (ints .u64 O) i [.int .u64 (IntKind.wrap .u64 (O.getD i 0 + e.w1))] = ints .u64 (O.set i (IntKind.wrap .u64 (O.getD i 0 + e.w1))) := by simp [wrL, ints, List.map_set]
      rw [← this]; exact w2
    have l12 : M1.ld x12 5 = some (.int .i64 st) := by
      unfold AMem.ld at h12 ⊢
      rw [w3.get x12 hx12 (by simpa using h103.2.1)]
      exact h12
    obtain ⟨M', O', k1, k2, k3, k4⟩ := ih (k + 1) M1 _ (by omega) (hsl.same w3 (fun x hx => by simpa using h103.2.2 x hx)) (h3.same w3 (by simpa using h103.1)) l12 (by omega) w2' (hR.set _ _)
    refine ⟨M', O', ?_, k2, by rw [hd]; exact .cons hOl hi (by omega) k3, (w3.trans k4).mono (by simp)⟩
    rw [P3_57_eq LL L_loop, ifD hg.2]
    try simp only [↓if_pos hg, Nat.zero_add, Int.toNat_natCast]
    rw [bLI l0, ifDn (by omega)]
    try simp only [↓if_pos hg, Nat.zero_add, Int.toNat_natCast]
    rw [bLI l0, bLI y0, ifDn (by omega)]
    try simp only [↓if_pos hg, Nat.zero_add, Int.toNat_natCast]
    rw [bLI l0, bLI y1, if_neg hs, bLI h12, htm, show (st != st) = false by simp, P3_69_eq, ifF]
    try simp only [↓if_pos hg, Nat.zero_add, Int.toNat_natCast]
    rw [bLI l0]
    try simp only [↓if_pos hg, Nat.zero_add, Int.toNat_natCast]
    rw [bLI l0, if_pos hg64, hi]
    try simp only [Int.toNat_natCast, Nat.mul_one, Nat.zero_add]
    rw [bLI lo]
    try simp only [↓if_pos hg, Nat.zero_add, Int.toNat_natCast]
    rw [bLI l2, if_pos (by omega)]
    rw [bX w1, P3_75_eq, hw]
    exact k1

theorem out_loop {x3 : Nat} {x7 : Int} {x8 : Option Addr} {x9 x10 : Nat} {x15 : Option Addr} {x15n x15c : Nat} {x16 x17 : Int} {x18 : Option Addr} {x18c : Nat} {p s : Int} {t : List En} (hp : p ≤ 64) (ht : ∀ e ∈ t, 0 ≤ e.px ∧ e.px < p) (htl : t.length ≤ 5000) (h103 : x3 ≠ x10 ∧ ∀ z ∈ blk x18, z ≠ x10) :
    ∀ (d k : Nat) (M : AMem) (O : List Int), k + d = t.length → Slc M 4 x18 t.length x18c (t.flatMap encE) → Rd M x3 [.int .i64 p, .int .i64 s] → Cells M x10 (ints .u64 O) → Rg O →
    ∃ M' O', P3_116 LL x3 x7 x8 x9 x10 x15 x15n x15c x16 x17 x18 t.length x18c (k : Int) M = P3_135 LL x3 x7 x8 x9 x10 x15 x15n x15c x16 x17 M' ∧ Cells M' x10 (ints .u64 O') ∧ Ou O O' (t.drop k) ∧ Same M M' [x10] := by
  intro d
  induction d with
  | zero =>
    intro k M O hk hsl h3 hO hR
    rw [P3_116_eq LL L_loop, ifDn (by rw [ofN]; omega), List.drop_eq_nil_of_le (by omega)]
    exact ⟨M, O, rfl, hO, .nil hR, .refl _ _⟩
  | succ d ih =>
    intro k M O hk hsl h3 hO hR
    have hkl : k < t.length := by omega
    obtain ⟨e, he⟩ : ∃ e, t[k]? = some e := ⟨_, List.getElem?_eq_getElem hkl⟩
    obtain ⟨hp0, hp1⟩ := ht e (List.mem_of_getElem? he)
    obtain ⟨i, hi⟩ : ∃ i : Nat, e.px = (i : Int) := ⟨e.px.toNat, by omega⟩
    have hd : t.drop k = e :: t.drop (k + 1) := by rw [List.drop_eq_getElem_cons hkl]; congr 1; exact (List.getElem?_eq_some_iff.1 he).2
    obtain ⟨z, rfl, hz⟩ := hsl.pos (by omega)
    obtain ⟨l0, l2⟩ := e1_ld hz.rd he
    have hg : (0 : Int) ≤ (k : Int) ∧ (k : Int) < Int.ofNat t.length := by rw [ofN]; omega
    have hw : IntKind.wrap .i64 ((k : Int) + 1) = ((k + 1 : Nat) : Int) := by rw [w64 (by omega)]; rfl
    have y0 : M.ld x3 0 = some (.int .i64 p) := h3.ld 0
    have hOl := hR.1
    have lo : M.ld x10 i = some (.int .u64 (O.getD i 0)) := by rw [hO.ld, ints_nat (by omega)]
    have hg64 : (0 : Int) ≤ e.px ∧ e.px < 64 := by omega
    obtain ⟨M1, w1, w2, w3, w4⟩ := hO.wr (o := i) (vs := [.int .u64 (IntKind.wrap .u64 (O.getD i 0 + e.w1))]) (by rw [ints_length, List.length_singleton]; omega)
    have w2' : Cells M1 x10 (ints .u64 (O.set i (IntKind.wrap .u64 (O.getD i 0 + e.w1)))) := by
      have : wrL (ints .u64 O) i [.int .u64 (IntKind.wrap .u64 (O.getD i 0 + e.w1))] = ints .u64 (O.set i (IntKind.wrap .u64 (O.getD i 0 + e.w1))) := by simp [wrL, ints, List.map_set]
      rw [← this]; exact w2
    obtain ⟨M', O', k1, k2, k3, k4⟩ := ih (k + 1) M1 _ (by omega) (hsl.same w3 (fun x hx => by simpa using h103.2 x hx)) (h3.same w3 (by simpa using h103.1)) w2' (hR.set _ _)
    refine ⟨M', O', ?_, k2, by rw [hd]; exact .cons hOl hi (by omega) k3, (w3.trans k4).mono (by simp)⟩
    rw [P3_116_eq LL L_loop, ifD hg.2]
    try simp only [↓if_pos hg, Nat.zero_add, Int.toNat_natCast]
    rw [bLI l0, ifDn (by omega)]
    try simp only [↓if_pos hg, Nat.zero_add, Int.toNat_natCast]
    rw [bLI l0, bLI y0, ifDn (by omega)]
    try simp only [↓if_pos hg, Nat.zero_add, Int.toNat_natCast]
    rw [bLI l0]
    try simp only [↓if_pos hg, Nat.zero_add, Int.toNat_natCast]
    rw [bLI l0, if_pos hg64, hi]
    try simp only [Int.toNat_natCast, Nat.mul_one, Nat.zero_add]
    rw [bLI lo]
    try simp only [↓if_pos hg, Nat.zero_add, Int.toNat_natCast]
    rw [bLI l2, if_pos (by omega)]
    rw [bX w1, P3_134_eq, hw]
    exact k1

end Go.Proofs.Ytjcmnchkgnmooaa
