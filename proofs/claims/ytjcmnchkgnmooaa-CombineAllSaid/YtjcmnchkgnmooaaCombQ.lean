/- The program's buffers: Put. -/
import Derived.Test.YtjcmnchkgnmooaaCombP
set_option linter.unusedVariables false
set_option linter.unusedSimpArgs false
namespace Go.Proofs.Ytjcmnchkgnmooaa
open Go Go.Ax

def wad (w v : Int) : Int := IntKind.wrap .u64 (w + IntKind.wrap .u64 v)
def wadd (e : En) (r g b : Int) : En := ⟨e.px, wad e.w0 r, wad e.w1 g, wad e.w2 b⟩

theorem put_step {M : AMem} {z i k : Nat} {es : List En} {e e' : En} {r g b v w : Int} (h : Cells M z (es.flatMap encE)) (he : es[i]? = some e) (hk : k < 3) (hv : ([r, g, b] : List Int)[k]? = some v) (hw : (encE e)[1 + k]? = some (.int .u64 w)) (hs : (encE e).set (1 + k) (.int .u64 (wad w v)) = encE e') :
    ∃ M', P7_35 LL ⟨z, i * 4 + 1, none⟩ r g b (k : Int) M = P7_35 LL ⟨z, i * 4 + 1, none⟩ r g b ((k + 1 : Nat) : Int) M' ∧ Cells M' z ((es.set i e').flatMap encE) ∧ Same M M' [z] := by
  have hil := (List.getElem?_eq_some_iff.1 he).1
  have hg : (0 : Int) ≤ (k : Int) ∧ (k : Int) < 3 := by omega
  have hw1 : IntKind.wrap .i64 ((k : Int) + 1) = ((k + 1 : Nat) : Int) := by rw [w64 (by omega)]; rfl
  have hv' : ([r, g, b] : List Int)[k * 1]? = some v := by rw [Nat.mul_one]; exact hv
  have hl : (es.flatMap encE).length = es.length * 4 := flatMap_length encE_length es
  have l0 : M.ld z (i * 4 + 1 + k) = some (.int .u64 w) := by
    rw [h.ld, Nat.add_assoc, flat_get encE_length es i (1 + k) e he (by omega)]
    exact hw
  obtain ⟨M', w1, w2, w3, w4⟩ := h.wr (o := i * 4 + 1 + k) (vs := [.int .u64 (wad w v)]) (by rw [hl, List.length_singleton]; omega)
  refine ⟨M', ?_, ?_, w3⟩
  · rw [P7_35_eq LL L_loop, ifD (by omega), if_pos hg]
    simp only [Int.toNat_natCast]
    rw [bX hv', if_pos hg]
    simp only [Nat.mul_one]
    rw [bLI l0, if_pos hg]
    unfold wad at w1
    rw [bX w1, P7_47_eq, hw1]
  · have : wrL (es.flatMap encE) (i * 4 + 1 + k) [.int .u64 (wad w v)] = (es.set i e').flatMap encE := by
      simp only [wrL]
      rw [Nat.add_assoc]
      exact flat_set1 encE_length es i (1 + k) e e' _ he (by omega) hs
    rw [← this]
    exact w2

theorem put_add {M : AMem} {b mp x3 i : Nat} {q : Option Addr} {qc : Nat} {p s room : Int} {es : List En} {e : En} {px r g bl : Int} (h : IsBuf M b mp q qc p s room es) (he : es[i]? = some e) (h3 : Rd M x3 [.int .i64 px, .int .i64 r, .int .i64 g, .int .i64 bl]) :
    ∃ M', P7_29 LL (some ⟨b, 0, none⟩) x3 (i : Int) M = some (.bool true, M') ∧ IsBuf M' b mp q qc p s room (es.set i (wadd e r g bl)) ∧ Same M M' (blk q) := by
  have hil := (List.getElem?_eq_some_iff.1 he).1
  have l4 : M.ld b 4 = some (.slice q es.length qc) := h.hd.ld 4
  have y1 : M.ld x3 1 = some (.int .i64 r) := h3.ld 1
  have y2 : M.ld x3 2 = some (.int .i64 g) := h3.ld 2
  have y3 : M.ld x3 3 = some (.int .i64 bl) := h3.ld 3
  obtain ⟨z, rfl, hz⟩ := h.sl.pos (by omega)
  have hg : (0 : Int) ≤ (i : Int) ∧ (i : Int) < Int.ofNat es.length := by rw [ofN]; omega
  obtain ⟨M1, a1, a2, a3⟩ := put_step (r := r) (g := g) (b := bl) (e' := { e with w0 := wad e.w0 r }) hz he (show 0 < 3 by omega) rfl rfl rfl
  have he1 : (es.set i { e with w0 := wad e.w0 r })[i]? = some { e with w0 := wad e.w0 r } := by rw [List.getElem?_set_self hil]
  obtain ⟨M2, b1, b2, b3⟩ := put_step (r := r) (g := g) (b := bl) (e' := { e with w0 := wad e.w0 r, w1 := wad e.w1 g }) a2 he1 (show 1 < 3 by omega) rfl rfl rfl
  rw [List.set_set] at b2
  have he2 : (es.set i { e with w0 := wad e.w0 r, w1 := wad e.w1 g })[i]? = some { e with w0 := wad e.w0 r, w1 := wad e.w1 g } := by rw [List.getElem?_set_self hil]
  obtain ⟨M3, c1, c2, c3⟩ := put_step (r := r) (g := g) (b := bl) (e' := wadd e r g bl) b2 he2 (show 2 < 3 by omega) rfl rfl rfl
  rw [List.set_set] at c2
  have t : Same M M3 [z] := ((a3.trans b3).trans c3).mono (by simp)
  obtain ⟨mes, m1, m2, m3⟩ := h.mm
  have hne := h.ne
  simp only [blk_some, List.mem_singleton] at hne
  refine ⟨M3, ?_, ⟨?_, ⟨mes, t.at m1 (by simpa using hne.2.2), m2, fun x => by rw [m3, pix_set x (e' := wadd e r g bl) he rfl]⟩, ?_, h.ne, h.rt, ?_, fun y hy => ?_, by rw [List.length_set]; exact h.rm⟩, t⟩
  · rw [P7_29_eq]
    simp only [Nat.zero_add]
    rw [bLS l4]
    simp only [↓if_pos hg, Int.toNat_natCast, Nat.zero_add]
    rw [bLI y1, bLI y2, bLI y3]
    have e0 : P7_35 LL ⟨z, i * 4 + 1, none⟩ r g bl 0 M = _ := a1
    rw [e0, b1, c1, P7_35_eq LL L_loop, ifDn (by omega), P7_48_eq]
  · rw [List.length_set]
    exact h.hd.same t (by simpa using hne.2.1)
  · rw [List.length_set]
    exact ⟨by rw [flatMap_length encE_length, List.length_set], .inr ⟨z, rfl, by
      rcases h.sl.2 with ⟨e1, _⟩ | ⟨a, _, e2, _⟩
      · cases e1
      · exact e2, c2⟩⟩
  · have : (es.set i (wadd e r g bl)).map En.px = es.map En.px := by
      rw [List.map_set]
      refine List.ext_getElem? fun g => ?_
      by_cases eg : i = g
      · subst eg; rw [List.getElem?_set_self (by simpa using hil), List.getElem?_map, he]; rfl
      · rw [List.getElem?_set_ne eg]
    rw [this]; exact h.nd
  · obtain ⟨j, hj⟩ := List.getElem?_of_mem hy
    by_cases ej : i = j
    · subst ej
      rw [List.getElem?_set_self hil] at hj
      cases hj
      exact h.px e (List.mem_of_getElem? he)
    · rw [List.getElem?_set_ne ej] at hj
      exact h.px y (List.mem_of_getElem? hj)

theorem mput_same {M : AMem} {r : Nat} {k kv : IntKind} {es : List (Int × Int)} : Same M (AMem.mput M k kv (some r) es) [r] := same_set M r _
theorem mput_get {M : AMem} {r : Nat} {k kv : IntKind} {es es2 : List (Int × Int)} (h : M[r]? = some (.map k kv es)) : (AMem.mput M k kv (some r) es2)[r]? = some (.map k kv es2) := get_set_self h
theorem mput_len (M : AMem) (r : Nat) (k kv : IntKind) (es : List (Int × Int)) : (AMem.mput M k kv (some r) es).length = M.length := by simp [AMem.mput]

/-- One more entry, and what is added to it. -/
theorem put_new {M : AMem} {b mp x3 : Nat} {q : Option Addr} {qc : Nat} {p s room : Int} {es : List En} {px r g bl : Int} (h : IsBuf M b mp q qc p s room es) (hpx : 0 ≤ px ∧ px < p) (hn : pix px es = none) (hroom : (es.length : Int) < room) (h3 : Rd M x3 [.int .i64 px, .int .i64 r, .int .i64 g, .int .i64 bl]) (hx3 : x3 ∉ bufB b mp q) :
    ∃ M' q', P7_25 LL (some ⟨b, 0, none⟩) x3 (es.length : Int) M = some (.bool true, M') ∧ IsBuf M' b mp q' 4 p s room (es ++ [wadd ⟨px, 0, 0, 0⟩ r g bl]) ∧ Same M M' (bufB b mp q) ∧ ∀ z ∈ blk q', M.length ≤ z := by
  obtain ⟨mes, m1, m2, m3⟩ := h.mm
  obtain ⟨n1, n2, n3⟩ := h.ne
  simp only [bufB, List.mem_cons, not_or] at hx3
  obtain ⟨x31, x32, x33⟩ := hx3
  have hrm := h.rm
  have l3 : M.ld b 3 = some (.map (some mp)) := h.hd.ld 3
  have y0 : M.ld x3 0 = some (.int .i64 px) := h3.ld 0
  obtain ⟨M1, eM1⟩ : ∃ M1, M1 = AMem.mput M .i64 .i64 (some mp) (mset px (es.length : Int) mes) := ⟨_, rfl⟩
  have t1 : Same M M1 [mp] := by rw [eM1]; exact mput_same
  have g1 : M1[mp]? = some (.map .i64 .i64 (mset px (es.length : Int) mes)) := by rw [eM1]; exact mput_get m1
  have hd1 := h.hd.same t1 (by simp; exact fun e => n1 e.symm)
  have h31 := h3.same t1 (by simpa using x32)
  have sl1 := h.sl.same t1 (fun z hz => by simp; intro e; subst e; exact n3 hz)
  have l4 : M1.ld b 4 = some (.slice q es.length qc) := hd1.ld 4
  have y01 : M1.ld x3 0 = some (.int .i64 px) := h31.ld 0
  obtain ⟨M2, c1, c2, c3, c4⟩ := append_row (bytes := 32) (v := 0) (new := encE ⟨px, 0, 0, 0⟩) (m := 1) sl1 rfl (by omega) (by omega)
  have hrow := rowOf_new M1 4 1 (encE ⟨px, 0, 0, 0⟩) 0 4 rfl
  unfold encE at hrow c1
  simp only at hrow c1
  have hd2 := hd1.same c3 n2
  obtain ⟨M3, w1, w2, w3, w4⟩ := hd2.wr (o := 4) (vs := [.slice (some ⟨M1.length + 1, 0, none⟩) (es.length + 1) 4]) (by simp)
  have hlM1 : M1.length = M.length := by rw [eM1]; exact mput_len _ _ _ _ _
  have hb := h.hd.lt
  have hmlt := lt_of_get m1
  have hx3lt := h3.lt
  have hchk : chkOk [(4, 8)] [(4, b)] [(8, (M1, M1 ++ [AObj.cells [.int .i64 px, .int .u64 0, .int .u64 0, .int .u64 0] ⟨false, 0⟩]))] = true := by
    simp [chkOk, List.lookup, ver_same (same_app M1 [AObj.cells [.int .i64 px, .int .u64 0, .int .u64 0, .int .u64 0] ⟨false, 0⟩]) (by omega : b < M1.length) (by simp)]
  have t13 : Same M1 M3 (blk q ++ [b]) := c3.trans w3
  have t03 : Same M M3 (bufB b mp q) := (t1.trans t13).mono (fun z hz => by simp [bufB] at hz ⊢; rcases hz with h | h | h <;> simp [h])
  have hB : IsBuf M3 b mp (some ⟨M1.length + 1, 0, none⟩) 4 p s room (es ++ [⟨px, 0, 0, 0⟩]) := by
    refine ⟨?_, ⟨_, t13.at g1 (by simp; exact ⟨n3, n1⟩), mset_nodup _ _ _ m2, fun x => ?_⟩, ?_, ⟨n1, by simp; omega, by simp; omega⟩, h.rt, ?_, fun y hy => ?_, ?_⟩
    · rw [List.length_append, List.length_singleton]
      simpa [wrL] using w2
    · rw [mget_mset, m3, pix_app]
      by_cases c : x = px
      · rw [if_pos c, c, hn]; simp
      · rw [if_neg c]
        cases pix x es with
        | some i => rfl
        | none => simp [c]
    · rw [List.length_append, List.length_singleton, List.flatMap_append]
      have := c2.same w3 (by simp; omega)
      simpa [encE] using this
    · rw [List.map_append, List.nodup_append]
      refine ⟨h.nd, by simp, fun a ha c hc => ?_⟩
      simp only [List.map_cons, List.map_nil, List.mem_singleton] at hc
      obtain ⟨y, hy, rfl⟩ := List.mem_map.1 ha
      rw [hc]
      exact fun e => (pix_none.1 hn y hy) e.symm
    · rcases List.mem_append.1 hy with hy | hy
      · exact h.px y hy
      · simp only [List.mem_singleton] at hy
        subst hy; exact hpx
    · rw [List.length_append, List.length_singleton]; omega
  have h33 : Rd M3 x3 [.int .i64 px, .int .i64 r, .int .i64 g, .int .i64 bl] := h31.same t13 (by simp; exact ⟨x33, x31⟩)
  obtain ⟨M', e1, e2, e3⟩ := put_add (i := es.length) (e := ⟨px, 0, 0, 0⟩) hB (by simp) h33
  have hset : (es ++ [(⟨px, 0, 0, 0⟩ : En)]).set es.length (wadd ⟨px, 0, 0, 0⟩ r g bl) = es ++ [wadd ⟨px, 0, 0, 0⟩ r g bl] := by simp
  rw [hset] at e2
  refine ⟨M', _, ?_, e2, ?_, by simp; omega⟩
  · rw [P7_25_eq]
    simp only [Nat.zero_add]
    rw [bAny l3, bLI y0, bMap, bX (mp_get m1), ← eM1, bLS l4, bLI y01, bX hrow, c1, bX w1, if_pos hchk]
    exact e1
  · exact (t03.trans e3).mono' fun z hz hlt => by
      rcases List.mem_append.1 hz with hz | hz
      · exact hz
      · simp at hz; omega

/-- What a Put that is taken makes of the entries. -/
def PutR (px r g bl : Int) (es es' : List En) : Prop := (∃ i e, es[i]? = some e ∧ e.px = px ∧ es' = es.set i (wadd e r g bl)) ∨ (pix px es = none ∧ es' = es ++ [wadd ⟨px, 0, 0, 0⟩ r g bl])

theorem put_spec {M : AMem} {b mp : Nat} {q : Option Addr} {qc : Nat} {p s room : Int} {es : List En} (px r g bl : Int) (h : IsBuf M b mp q qc p s room es) :
    ∃ M' q' qc' es' ok, LL.call 7 [bp b, .agg #[.int .i64 px, .int .i64 r, .int .i64 g, .int .i64 bl]] M = some (.bool ok, M') ∧ IsBuf M' b mp q' qc' p s room es' ∧ Same M M' (bufB b mp q) ∧ (∀ z ∈ blk q', z ∈ blk q ∨ M.length ≤ z) ∧
      (ok = true → (0 ≤ px ∧ px < p) ∧ Wt r g bl ∧ PutR px r g bl es es') ∧ (ok = false → es' = es) := by
  rw [L_call7, E7]
  have g0 := cells_new M [.int .i64 px, .int .i64 r, .int .i64 g, .int .i64 bl] 0
  have s0 := same_app M [AObj.cells [.int .i64 px, .int .i64 r, .int .i64 g, .int .i64 bl] ⟨false, 0⟩]
  have l0 : (M ++ [AObj.cells [.int .i64 px, .int .i64 r, .int .i64 g, .int .i64 bl] ⟨false, 0⟩]).length = M.length + 1 := by simp
  generalize M ++ [AObj.cells [.int .i64 px, .int .i64 r, .int .i64 g, .int .i64 bl] ⟨false, 0⟩] = M0 at g0 s0 l0 ⊢
  have hlt := h.lt
  have h0 := h.same s0 (by simp)
  have p0 : M0.ld b 0 = some (.int .i64 p) := h0.hd.ld 0
  have p1 : M0.ld b 1 = some (.int .i64 s) := h0.hd.ld 1
  have p2 : M0.ld b 2 = some (.int .i64 room) := h0.hd.ld 2
  have p3 : M0.ld b 3 = some (.map (some mp)) := h0.hd.ld 3
  have p4 : M0.ld b 4 = some (.slice q es.length qc) := h0.hd.ld 4
  have y0 : M0.ld M.length 0 = some (.int .i64 px) := g0.ld 0
  have y1 : M0.ld M.length 1 = some (.int .i64 r) := g0.ld 1
  have y2 : M0.ld M.length 2 = some (.int .i64 g) := g0.ld 2
  have y3 : M0.ld M.length 3 = some (.int .i64 bl) := g0.ld 3
  have hx : M.length ∉ bufB b mp q := fun hm => by have := hlt _ hm; omega
  obtain ⟨mes, m1, m2, m3⟩ := h0.mm
  have hrm := h.rm
  have no : ∃ M' q' qc' es' ok, (some (Value.bool false, M0) : Option (Value × AMem)) = some (.bool ok, M') ∧ IsBuf M' b mp q' qc' p s room es' ∧ Same M M' (bufB b mp q) ∧ (∀ z ∈ blk q', z ∈ blk q ∨ M.length ≤ z) ∧ (ok = true → (0 ≤ px ∧ px < p) ∧ Wt r g bl ∧ PutR px r g bl es es') ∧ (ok = false → es' = es) :=
    ⟨M0, q, qc, es, false, rfl, h0, s0.mono (by simp), fun z hz => .inl hz, fun h => by simp at h, fun _ => rfl⟩
  obtain ⟨_, ks⟩ := stripe_spec p s px
  obtain ⟨_, kw⟩ := weight_spec r g bl
  rw [bX (bgiven h0), bB, ifNT]
  simp only [Nat.zero_add]
  rw [bLI p0, bLI p1, bLI y0, bX ks, bI]
  by_cases hpx : 0 ≤ px ∧ px < p
  rotate_left
  · have e1 : (if Rt p s ∧ 0 ≤ px ∧ px < p then Int.tmod px s else -1) = -1 := if_neg (fun hh => hpx hh.2)
    rw [e1, ifD (by omega)]; exact no
  have htm : 0 ≤ Int.tmod px s := Int.tmod_nonneg _ hpx.1
  have e1 : (if Rt p s ∧ 0 ≤ px ∧ px < p then Int.tmod px s else -1) = Int.tmod px s := if_pos ⟨h.rt, hpx⟩
  rw [e1, ifDn (by omega), bLI y1, bLI y2, bLI y3, bX kw, bB]
  by_cases hw : Wt r g bl
  rotate_left
  · rw [decide_eq_false hw, ifNF]; exact no
  rw [decide_eq_true hw, ifNT, bAny p3, bLI y0, bMap, bX (mp_get m1), m3]
  cases hpi : pix px es with
  | some i =>
    obtain ⟨e, he, hepx⟩ := pix_some hpi
    rw [show (!(Option.map Int.ofNat (some i)).isSome) = false from rfl, ifF, ifF]
    obtain ⟨M', a1, a2, a3⟩ := put_add h0 he g0.rd
    exact ⟨M', q, qc, _, true, a1, a2, (s0.trans a3).mono (fun z hz => by simp [bufB] at hz ⊢; simp [hz]), fun z hz => .inl hz, fun _ => ⟨hpx, hw, .inl ⟨i, e, he, hepx, rfl⟩⟩, fun h => by simp at h⟩
  | none =>
    rw [show (!(Option.map Int.ofNat (none : Option Nat)).isSome) = true from rfl, ifT, bLS p4, bLI p2]
    by_cases hfull : (es.length : Int) = room
    · rw [show (Int.ofNat es.length == room) = true by simpa using hfull, ifT]; exact no
    · rw [show (Int.ofNat es.length == room) = false by simpa using hfull, ifF, ifT, bLS p4]
      obtain ⟨M', q', a1, a2, a3, a4⟩ := put_new h0 hpx hpi (by omega) g0.rd hx
      exact ⟨M', q', 4, _, true, a1, a2, (s0.trans a3).mono (by simp), fun z hz => .inr (by have := a4 z hz; omega), fun _ => ⟨hpx, hw, .inr ⟨hpi, rfl⟩⟩, fun h => by simp at h⟩

end Go.Proofs.Ytjcmnchkgnmooaa
