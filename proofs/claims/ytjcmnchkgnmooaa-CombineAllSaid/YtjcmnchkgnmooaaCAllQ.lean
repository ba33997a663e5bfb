/- CombineAll: what was put is as much as what is there, and was taken, pixel by pixel. -/
import Derived.Test.YtjcmnchkgnmooaaRows
import Derived.Test.YtjcmnchkgnmooaaCAllP
import Derived.Test.YtjcmnchkgnmooaaEqAwake32
import Derived.Test.YtjcmnchkgnmooaaClosed
set_option linter.unusedVariables false
set_option linter.unusedSimpArgs false
set_option maxRecDepth 100000
namespace Go.Proofs.Ytjcmnchkgnmooaa
open Go Go.Ax
open Go.ChangeShapes Go.WideShapes Go.ChangeAt Go.RowKit

theorem awake32 : ∃ M, LL.call 5 [] [] = some (.bool true, M) := closed 40 (by kernel_rfl)

structure Sp where
  tk : Bool
  px : Int
  r : Int
  g : Int
  b : Int
  st : Int
def encT (x : Sp) : List Value := [.bool x.tk, .int .i64 x.px, .int .i64 x.r, .int .i64 x.g, .int .i64 x.b, .int .i64 x.st]
theorem encT_length (x : Sp) : (encT x).length = 6 := rfl

structure CI (N : Nat) (M : AMem) (b mp : Nat) (q : Option Addr) (qc : Nat) (p s room : Int) (es : List En) (x9 x10 : Nat) (I O : List Int) : Prop where
  buf : IsBuf M b mp q qc p s room es
  c9 : Cells M x9 (ints .u64 I)
  c10 : Cells M x10 (ints .u64 O)
  bal : Bal I O es
  ne : x9 ≠ x10 ∧ x9 ∉ bufB b mp q ∧ x10 ∉ bufB b mp q
  lo : N ≤ x9 ∧ N ≤ x10 ∧ ∀ z ∈ bufB b mp q, N ≤ z

theorem CI.same {N : Nat} {M M' : AMem} {b mp : Nat} {q : Option Addr} {qc : Nat} {p s room : Int} {es : List En} {x9 x10 : Nat} {I O : List Int} (h : CI N M b mp q qc p s room es x9 x10 I O) (k : Same M M' []) : CI N M' b mp q qc p s room es x9 x10 I O :=
  ⟨h.buf.same k (by simp), h.c9.same k (by simp), h.c10.same k (by simp), h.bal, h.ne, h.lo⟩

theorem filt_in (s st : Int) (es : List En) : (es.filter (outS s st)).filter (inS s st) = [] := by
  rw [List.filter_filter, List.filter_eq_nil_iff]
  intro e _
  unfold outS
  cases inS s st e <;> simp

theorem filt_out (s st : Int) (es : List En) : (es.filter (outS s st)).filter (outS s st) = es.filter (outS s st) := by
  rw [List.filter_filter]
  congr 1
  funext e
  cases outS s st e <;> rfl

/-- After a Take. -/
theorem CI.take {N : Nat} {M M' : AMem} {b mp : Nat} {q r : Option Addr} {qc rc : Nat} {p s room st : Int} {es : List En} {x9 x10 : Nat} {I O : List Int} (h : CI N M b mp q qc p s room es x9 x10 I O) (hNM : N ≤ M.length) (hb : IsBuf M' b mp r rc p s room (es.filter (outS s st))) (k : Same M M' [b, mp]) (hr : ∀ z ∈ blk r, M.length ≤ z) :
    Cells M' x9 (ints .u64 I) ∧ Cells M' x10 (ints .u64 O) ∧ (x9 ≠ x10 ∧ x9 ∉ bufB b mp r ∧ x10 ∉ bufB b mp r) ∧ (N ≤ x9 ∧ N ≤ x10 ∧ ∀ z ∈ bufB b mp r, N ≤ z) := by
  obtain ⟨n1, n2, n3⟩ := h.ne
  obtain ⟨o1, o2, o3⟩ := h.lo
  simp only [bufB, List.mem_cons, not_or] at n2 n3 o3
  have l9 := h.c9.lt
  have l10 := h.c10.lt
  refine ⟨h.c9.same k (by simp; exact ⟨n2.1, n2.2.1⟩), h.c10.same k (by simp; exact ⟨n3.1, n3.2.1⟩), ⟨n1, ?_, ?_⟩, o1, o2, fun z hz => ?_⟩
  · simp only [bufB, List.mem_cons, not_or]
    exact ⟨n2.1, n2.2.1, fun hx => by have := hr _ hx; omega⟩
  · simp only [bufB, List.mem_cons, not_or]
    exact ⟨n3.1, n3.2.1, fun hx => by have := hr _ hx; omega⟩
  · simp only [bufB, List.mem_cons] at hz
    rcases hz with hz | hz | hz
    · exact o3 z (.inl hz)
    · exact o3 z (.inr (.inl hz))
    · have := hr z hz; omega

theorem call_steps {N : Nat} {p s room : Int} {b mp x3 x9 x10 : Nat} {w : Option Addr} {l : List Sp} {x7 : Int} (hp : p ≤ 64) (hl : l.length ≤ 40) (hx3 : x3 < N) (hwN : 0 < l.length → ∀ z ∈ blk w, z < N) :
    ∀ (d i : Nat) (M : AMem) (q : Option Addr) (qc : Nat) (es : List En) (I O : List Int), i + d = l.length → RdL M encT w l.length l → Rd M x3 [.int .i64 p, .int .i64 s] → N ≤ M.length → CI N M b mp q qc p s room es x9 x10 I O →
    ∃ M' q' qc' es' I' O', P3_20 LL w l.length 0 x3 x7 (some ⟨b, 0, none⟩) x9 x10 (i : Int) M = P3_84 LL x3 x7 (some ⟨b, 0, none⟩) x9 x10 M' ∧ CI N M' b mp q' qc' p s room es' x9 x10 I' O' ∧ Rd M' x3 [.int .i64 p, .int .i64 s] ∧ N ≤ M'.length := by
  intro d
  induction d with
  | zero =>
    intro i M q qc es I O hi hw h3 hNM h
    rw [P3_20_eq LL L_loop, ifDn (by rw [ofN]; omega)]
    exact ⟨M, q, qc, es, I, O, rfl, h, h3, hNM⟩
  | succ d ih =>
    intro i M q qc es I O hi hw h3 hNM h
    have hil : i < l.length := by omega
    obtain ⟨x, hx⟩ : ∃ x, l[i]? = some x := ⟨_, List.getElem?_eq_getElem hil⟩
    obtain ⟨z, rfl, hz⟩ := hw.2 (by omega)
    have hzN := hwN (by omega) z (by simp)
    have gt := fun j hj => flat_get encT_length l i j x hx hj
    have l0 : M.ld z (i * 6) = some (.bool x.tk) := by have := gt 0 (by omega); rw [Nat.add_zero] at this; rw [hz.ld, this]; rfl
    have l1 : M.ld z (i * 6 + 1) = some (.int .i64 x.px) := by rw [hz.ld, gt 1 (by omega)]; rfl
    have l2 : M.ld z (i * 6 + 2) = some (.int .i64 x.r) := by rw [hz.ld, gt 2 (by omega)]; rfl
    have l3 : M.ld z (i * 6 + 3) = some (.int .i64 x.g) := by rw [hz.ld, gt 3 (by omega)]; rfl
    have l4 : M.ld z (i * 6 + 4) = some (.int .i64 x.b) := by rw [hz.ld, gt 4 (by omega)]; rfl
    have l5 : M.ld z (i * 6 + 5) = some (.int .i64 x.st) := by rw [hz.ld, gt 5 (by omega)]; rfl
    have hg : (0 : Int) ≤ (i : Int) ∧ (i : Int) < Int.ofNat l.length := by rw [ofN]; omega
    have hwr : IntKind.wrap .i64 ((i : Int) + 1) = ((i + 1 : Nat) : Int) := by rw [w64 (by omega)]; rfl
    have s1 := same_app M [AObj.cells [.bool false, .int .i64 0, .int .i64 0, .int .i64 0, .int .i64 0, .int .i64 0] ⟨false, 0⟩]
    have g1 := cells_new M [.bool false, .int .i64 0, .int .i64 0, .int .i64 0, .int .i64 0, .int .i64 0] 0
    obtain ⟨M1, w1, w2, w3, w4⟩ := g1.wr (o := 0) (vs := encT x) (by simp [encT])
    have w2' : Cells M1 M.length (encT x) := by simpa [wrL, encT] using w2
    have hM1l : M1.length = M.length + 1 := by rw [w4]; simp
    have t1 : Same M M1 [] := (s1.trans w3).mono' (fun b hb hl => by simp at hb; omega)
    have h1 := h.same t1
    have blt := h.buf.lt
    have hxb : M.length ∉ bufB b mp q := fun hm => by have := blt _ hm; omega
    have l9 := h.c9.lt
    have l10 := h.c10.lt
    have v0 : M1.ld M.length 0 = some (.bool x.tk) := w2'.ld 0
    obtain ⟨o1, o2, o3⟩ := h.lo
    obtain ⟨n1, n2, n3⟩ := h.ne
    have hrt := h.buf.rt
    unfold encT at w1
    rw [P3_20_eq LL L_loop, ifD hg.2]
    simp only [↓if_pos hg, Nat.zero_add, Int.toNat_natCast]
    rw [bLB l0, bLI l1, bLI l2, bLI l3, bLI l4, bLI l5, bX w1, bLB v0]
    have next : ∀ (M2 : AMem) (S : List Nat) (q2 : Option Addr) (qc2 : Nat) (es2 : List En) (I2 O2 : List Int), Same M M2 S → (∀ y ∈ S, N ≤ y) → CI N M2 b mp q2 qc2 p s room es2 x9 x10 I2 O2 →
        ∃ M' q' qc' es' I' O', P3_83 LL (some ⟨z, 0, none⟩) l.length 0 x3 x7 (some ⟨b, 0, none⟩) x9 x10 (i : Int) M2 = P3_84 LL x3 x7 (some ⟨b, 0, none⟩) x9 x10 M' ∧ CI N M' b mp q' qc' p s room es' x9 x10 I' O' ∧ Rd M' x3 [.int .i64 p, .int .i64 s] ∧ N ≤ M'.length := fun M2 S q2 qc2 es2 I2 O2 t hS hC => by
      have hle := t.le
      rw [P3_83_eq, hwr]
      exact ih (i + 1) M2 q2 qc2 es2 I2 O2 (by omega) (hw.same t (fun y hy hyS => by simp at hy; have := hS y hyS; omega)) (h3.same t (fun hy => by have := hS _ hy; omega)) (by omega) hC
    cases htk : x.tk with
    | false =>
      have v1 : M1.ld M.length 1 = some (.int .i64 x.px) := w2'.ld 1
      have v2 : M1.ld M.length 2 = some (.int .i64 x.r) := w2'.ld 2
      have v3 : M1.ld M.length 3 = some (.int .i64 x.g) := w2'.ld 3
      have v4 : M1.ld M.length 4 = some (.int .i64 x.b) := w2'.ld 4
      obtain ⟨M2, q2, qc2, es2, ok, a1, a2, a3, a4, a5, a6⟩ := put_spec x.px x.r x.g x.b h1.buf
      have t2 : Same M M2 (bufB b mp q) := (t1.trans a3).mono (by simp)
      have n2' : x9 ∉ bufB b mp q2 := fun hm => by
        simp only [bufB, List.mem_cons, not_or] at hm n2
        rcases hm with hm | hm | hm
        · exact n2.1 hm
        · exact n2.2.1 hm
        · rcases a4 _ hm with hm | hm
          · exact n2.2.2 hm
          · omega
      have n3' : x10 ∉ bufB b mp q2 := fun hm => by
        simp only [bufB, List.mem_cons, not_or] at hm n3
        rcases hm with hm | hm | hm
        · exact n3.1 hm
        · exact n3.2.1 hm
        · rcases a4 _ hm with hm | hm
          · exact n3.2.2 hm
          · omega
      have o3' : ∀ y ∈ bufB b mp q2, N ≤ y := fun y hy => by
        simp only [bufB, List.mem_cons] at hy o3
        rcases hy with hy | hy | hy
        · exact o3 y (.inl hy)
        · exact o3 y (.inr (.inl hy))
        · rcases a4 _ hy with hy | hy
          · exact o3 y (.inr (.inr hy))
          · omega
      rw [ifNF, bLI v1, bLI v2, bLI v3, bLI v4, bX a1, bB, P3_38_eq]
      cases ok with
      | false =>
        rw [ifF]
        have := a6 rfl
        subst this
        exact next M2 _ q2 qc2 _ I O t2 o3 ⟨a2, h1.c9.same a3 n2, h1.c10.same a3 n3, h.bal, ⟨n1, n2', n3'⟩, o1, o2, o3'⟩
      | true =>
        obtain ⟨hpx, hW, hP⟩ := a5 rfl
        obtain ⟨c, hc⟩ : ∃ c : Nat, x.px = (c : Int) := ⟨x.px.toNat, by omega⟩
        have w22 := w2'.same a3 hxb
        have u1 : M2.ld M.length 1 = some (.int .i64 x.px) := w22.ld 1
        have u3 : M2.ld M.length 3 = some (.int .i64 x.g) := w22.ld 3
        have y0 : M2.ld x3 0 = some (.int .i64 p) := (h3.same t2 (fun hm => by have := o3 _ hm; omega)).ld 0
        have h9 := h1.c9.same a3 n2
        have hIl := h.bal.1
        have li : M2.ld x9 c = some (.int .u64 (I.getD c 0)) := by rw [h9.ld, ints_nat (by omega)]
        have hg64 : (0 : Int) ≤ (c : Int) ∧ (c : Int) < 64 := by omega
        obtain ⟨M3, d1, d2, d3, d4⟩ := h9.wr (o := c) (vs := [.int .u64 (IntKind.wrap .u64 (I.getD c 0 + IntKind.wrap .u64 x.g))]) (by rw [ints_length, List.length_singleton]; omega)
        have d2' : Cells M3 x9 (ints .u64 (I.set c (IntKind.wrap .u64 (I.getD c 0 + IntKind.wrap .u64 x.g)))) := by
          have : wrL (ints .u64 I) c [.int .u64 (IntKind.wrap .u64 (I.getD c 0 + IntKind.wrap .u64 x.g))] = ints .u64 (I.set c (IntKind.wrap .u64 (I.getD c 0 + IntKind.wrap .u64 x.g))) := by simp [wrL, ints, List.map_set]
          rw [← this]; exact d2
        rw [ifT, bLI u1, ifDn (by omega), bLI u1, bLI y0, ifDn (by omega), bLI u1, bLI u1, hc, if_pos hg64]
        simp only [Int.toNat_natCast, Nat.mul_one, Nat.zero_add]
        rw [bLI li, bLI u3, if_pos hg64, bX d1]
        refine next M3 _ q2 qc2 es2 _ O (t2.trans d3) (fun y hy => ?_) ⟨a2.same d3 (fun y hy => by simp; intro e; subst e; exact n2' hy), d2', (h1.c10.same a3 n3).same d3 (by simpa using fun e => n1 e.symm), h.bal.put hP hc (by omega), ⟨n1, n2', n3'⟩, o1, o2, o3'⟩
        rcases List.mem_append.1 hy with hy | hy
        · exact o3 y hy
        · simp at hy; omega
    | true =>
      have v5 : M1.ld M.length 5 = some (.int .i64 x.st) := w2'.ld 5
      obtain ⟨M2, o, oc, r, rc, a1, a2, a3, a4, a5, a6⟩ := take_spec x.st h1.buf
      obtain ⟨k9, k10, kne, klo⟩ := h1.take (by omega) a2 a4 a6
      have hel : es.length ≤ 4096 := by have := h.buf.rm; omega
      have hfl : (es.filter (inS s x.st)).length ≤ es.length := List.length_filter_le _ _
      have bb : N ≤ b ∧ N ≤ mp := ⟨o3 b (by simp [bufB]), o3 mp (by simp [bufB])⟩
      have w22 := w2'.same a4 (by simp [bufB] at hxb; simp; exact ⟨hxb.1, hxb.2.1⟩)
      have u5 : M2.ld M.length 5 = some (.int .i64 x.st) := w22.ld 5
      have h32 : Rd M2 x3 [.int .i64 p, .int .i64 s] := (h3.same t1 (by simp)).same a4 (by simp; omega)
      obtain ⟨M3, O3, e1, e2, e3, e4⟩ := in_loop (x2 := some ⟨z, 0, none⟩) (x2n := l.length) (x2c := 0) (x7 := x7) (x8 := some ⟨b, 0, none⟩) (x9 := x9) (x11 := (i : Int)) (st := x.st) (t := es.filter (inS s x.st)) hp (by obtain ⟨r1, r2, r3, r4⟩ := hrt; omega) (fun e he => ⟨h.buf.px e (List.mem_filter.1 he).1, of_decide_eq_true (List.mem_filter.1 he).2⟩) (by omega) ⟨by omega, by omega, fun y hy e => by have := (a5 y hy).1; omega⟩
        (es.filter (inS s x.st)).length 0 M2 O (by omega) a3 h32 u5 w22.lt k10 h.bal.2.1
      rw [List.drop_zero] at e3
      have hbr : ∀ y ∈ bufB b mp r, y ∉ [x10] := fun y hy => by simp; intro e; subst e; exact kne.2.2 hy
      have hB3 := a2.same e4 hbr
      have w23 := w22.same e4 (by simp; omega)
      have u53 : M3.ld M.length 5 = some (.int .i64 x.st) := w23.ld 5
      have hC3 : CI N M3 b mp r rc p s room (es.filter (outS s x.st)) x9 x10 I O3 := ⟨hB3, k9.same e4 (by simpa using n1), e2, h.bal.take e3, kne, klo⟩
      obtain ⟨M4, o', oc', r', rc', f1, f2, f3, f4, f5, f6⟩ := take_spec x.st hB3
      have le2 := a4.le
      have le3 := e4.le
      obtain ⟨m9, m10, mne, mlo⟩ := hC3.take (by omega) f2 f4 f6
      rw [filt_in] at f1
      rw [filt_out] at f2
      rw [ifNT, bLI v5, bX a1, bS]
      have e1' : P3_57 LL (some ⟨z, 0, none⟩) l.length 0 x3 x7 (some ⟨b, 0, none⟩) x9 x10 (i : Int) M.length o (es.filter (inS s x.st)).length oc 0 M2 = _ := e1
      simp only
      rw [e1', P3_76_eq, bLI u53, bX f1, bS, ifDn (by simp)]
      refine next M4 ([b, mp] ++ [x10] ++ [b, mp]) r' rc' _ I O3 (((t1.trans a4).trans e4).trans f4 |>.mono (by simp)) (fun y hy => ?_) ⟨f2, m9, m10, hC3.bal, mne, mlo⟩
      simp at hy
      omega

theorem call_out {N : Nat} {p s room : Int} {b mp x3 x9 x10 a : Nat} {ks : List Int} {x15c : Nat} {x15 : Option Addr} {x7 : Int} {n : Nat} (hp : p ≤ 64) (hx3 : x3 < N) (hn : n ≤ 4096) (hks : ks.length ≤ 4096) (hax : 0 < ks.length → x15 = some ⟨a, 0, none⟩ ∧ a ≠ b ∧ a ≠ mp ∧ a ≠ x10) :
    ∀ (d k : Nat) (M : AMem) (q : Option Addr) (qc : Nat) (es : List En) (I O : List Int) (all : Nat), k + d = ks.length → (0 < ks.length → ∃ cs, Rd M a cs ∧ ∀ i, i < ks.length → cs[i]? = (ints .i64 ks)[i]?) → Rd M x3 [.int .i64 p, .int .i64 s] → N ≤ M.length → CI N M b mp q qc p s room es x9 x10 I O → all + es.length ≤ n → (∀ e ∈ es, Int.tmod e.px s ∈ ks.drop k) →
    ∃ M' q' qc' I' O' all', P3_100 LL x3 x7 (some ⟨b, 0, none⟩) x9 x10 x15 ks.length x15c (all : Int) (k : Int) M = P3_136 LL x7 (some ⟨b, 0, none⟩) x9 x10 ((all' : Nat) : Int) M' ∧ CI N M' b mp q' qc' p s room [] x9 x10 I' O' ∧ all' ≤ n := by
  intro d
  induction d with
  | zero =>
    intro k M q qc es I O all hk hcs h3 hNM h hall hmem
    rw [P3_100_eq LL L_loop, ifDn (by rw [ofN]; omega)]
    have : es = [] := by
      cases es with
      | nil => rfl
      | cons e es =>
        have := hmem e (by simp)
        rw [List.drop_eq_nil_of_le (by omega)] at this
        simp at this
    subst this
    exact ⟨M, q, qc, I, O, all, rfl, h, by simpa using hall⟩
  | succ d ih =>
    intro k M q qc es I O all hk hcs h3 hNM h hall hmem
    have hkl : k < ks.length := by omega
    obtain ⟨hx15, ha1, ha2, ha3⟩ := hax (by omega)
    obtain ⟨cs, hc1, hc2⟩ := hcs (by omega)
    obtain ⟨y, hy⟩ : ∃ y, ks[k]? = some y := ⟨_, List.getElem?_eq_getElem hkl⟩
    have ly : M.ld a k = some (.int .i64 y) := by rw [hc1.ld, hc2 k hkl, ints_get, hy]; rfl
    have hdk : ks.drop k = y :: ks.drop (k + 1) := by rw [List.drop_eq_getElem_cons hkl]; congr 1; exact (List.getElem?_eq_some_iff.1 hy).2
    have hg : (0 : Int) ≤ (k : Int) ∧ (k : Int) < Int.ofNat ks.length := by rw [ofN]; omega
    have hw : IntKind.wrap .i64 ((k : Int) + 1) = ((k + 1 : Nat) : Int) := by rw [w64 (by omega)]; rfl
    obtain ⟨o1, o2, o3⟩ := h.lo
    obtain ⟨n1, n2, n3⟩ := h.ne
    have bb : N ≤ b ∧ N ≤ mp := ⟨o3 b (by simp [bufB]), o3 mp (by simp [bufB])⟩
    obtain ⟨M2, o, oc, r, rc, a1, a2, a3, a4, a5, a6⟩ := take_spec y h.buf
    obtain ⟨k9, k10, kne, klo⟩ := h.take hNM a2 a4 a6
    have l10 := h.c10.lt
    have hfl : (es.filter (inS s y)).length + (es.filter (outS s y)).length = es.length := by
      have : ∀ es : List En, (es.filter (inS s y)).length + (es.filter (outS s y)).length = es.length := fun es => by
        induction es with
        | nil => rfl
        | cons e es ih2 =>
          unfold outS at ih2 ⊢
          cases hh : inS s y e <;> simp [hh] <;> omega
      exact this es
    have h32 : Rd M2 x3 [.int .i64 p, .int .i64 s] := h3.same a4 (by simp; omega)
    have hc12 : Rd M2 a cs := hc1.same a4 (by simp; exact ⟨ha1, ha2⟩)
    have hwa : IntKind.wrap .i64 ((all : Int) + Int.ofNat (es.filter (inS s y)).length) = ((all + (es.filter (inS s y)).length : Nat) : Int) := by rw [ofN, w64 (by omega)]; omega
    obtain ⟨M3, O3, e1, e2, e3, e4⟩ := out_loop (x7 := x7) (x8 := some ⟨b, 0, none⟩) (x9 := x9) (x15 := x15) (x15n := ks.length) (x15c := x15c) (x16 := ((all + (es.filter (inS s y)).length : Nat) : Int)) (x17 := (k : Int)) (t := es.filter (inS s y)) (p := p) (s := s) hp (fun e he => h.buf.px e (List.mem_filter.1 he).1) (by omega) ⟨by omega, fun y hy e => by have := (a5 y hy).1; omega⟩
      (es.filter (inS s y)).length 0 M2 O (by omega) a3 h32 k10 h.bal.2.1
    rw [List.drop_zero] at e3
    have hbr : ∀ y ∈ bufB b mp r, y ∉ [x10] := fun y hy => by simp; intro e; subst e; exact kne.2.2 hy
    have le2 := a4.le
    have le3 := e4.le
    obtain ⟨M', q', qc', I', O', all', g1, g2, g3⟩ := ih (k + 1) M3 r rc (es.filter (outS s y)) I O3 (all + (es.filter (inS s y)).length) (by omega) (fun _ => ⟨cs, hc12.same e4 (by simpa using ha3), hc2⟩) (h32.same e4 (by simp; omega)) (by omega) ⟨a2.same e4 hbr, k9.same e4 (by simpa using n1), e2, h.bal.take e3, kne, klo⟩ (by omega) (fun e he => by
      have h1 := hmem e (List.mem_filter.1 he).1
      rw [hdk] at h1
      rcases List.mem_cons.1 h1 with h1 | h1
      · have h2 := (List.mem_filter.1 he).2
        unfold outS inS at h2
        rw [decide_eq_true h1] at h2
        simp at h2
      · exact h1)
    refine ⟨M', q', qc', I', O', all', ?_, g2, g3⟩
    rw [P3_100_eq LL L_loop, ifD hg.2, hx15]
    simp only [↓if_pos hg, Nat.zero_add, Int.toNat_natCast, Nat.mul_one]
    rw [bLI ly, bX a1, bS]
    simp only
    rw [hwa, P3_113_eq]
    rw [hx15] at e1 g1
    have e1' : P3_116 LL x3 x7 (some ⟨b, 0, none⟩) x9 x10 (some ⟨a, 0, none⟩) ks.length x15c ((all + (es.filter (inS s y)).length : Nat) : Int) (k : Int) o (es.filter (inS s y)).length oc 0 M2 = _ := e1
    rw [e1', P3_135_eq, hw]
    exact g1

theorem call_end {N : Nat} {M : AMem} {p s room : Int} {b mp x9 x10 : Nat} {q : Option Addr} {qc : Nat} {I O : List Int} {all n : Nat} (h : CI N M b mp q qc p s room [] x9 x10 I O) (hall : all ≤ n) :
    ∃ M', P3_136 LL (n : Int) (some ⟨b, 0, none⟩) x9 x10 (all : Int) M = some (.bool true, M') := by
  have hIO := h.bal.fin
  subst hIO
  have hl := h.bal.1
  obtain ⟨_, aw⟩ := awake32
  have h9 : ∀ i, i < 64 → M.ld x9 i = some (.int .u64 (I.getD i 0)) := fun i hi => by rw [h.c9.ld, ints_nat (by omega)]
  have h10 : ∀ i, i < 64 → M.ld x10 i = some (.int .u64 (I.getD i 0)) := fun i hi => by rw [h.c10.ld, ints_nat (by omega)]
  have hlen := blen_spec h.buf
  rw [P3_136_eq]
  rw [bLI (h9 0 (by omega)), bLI (h9 1 (by omega)), bLI (h9 2 (by omega)), bLI (h9 3 (by omega)), bLI (h9 4 (by omega)), bLI (h9 5 (by omega)), bLI (h9 6 (by omega)), bLI (h9 7 (by omega)), bLI (h9 8 (by omega)), bLI (h9 9 (by omega)), bLI (h9 10 (by omega)), bLI (h9 11 (by omega)), bLI (h9 12 (by omega)), bLI (h9 13 (by omega)), bLI (h9 14 (by omega)), bLI (h9 15 (by omega)), bLI (h9 16 (by omega)), bLI (h9 17 (by omega)), bLI (h9 18 (by omega)), bLI (h9 19 (by omega)), bLI (h9 20 (by omega)), bLI (h9 21 (by omega)), bLI (h9 22 (by omega)), bLI (h9 23 (by omega)), bLI (h9 24 (by omega)), bLI (h9 25 (by omega)), bLI (h9 26 (by omega)), bLI (h9 27 (by omega)), bLI (h9 28 (by omega)), bLI (h9 29 (by omega)), bLI (h9 30 (by omega)), bLI (h9 31 (by omega)), bLI (h9 32 (by omega)), bLI (h9 33 (by omega)), bLI (h9 34 (by omega)), bLI (h9 35 (by omega)), bLI (h9 36 (by omega)), bLI (h9 37 (by omega)), bLI (h9 38 (by omega)), bLI (h9 39 (by omega)), bLI (h9 40 (by omega)), bLI (h9 41 (by omega)), bLI (h9 42 (by omega)), bLI (h9 43 (by omega)), bLI (h9 44 (by omega)), bLI (h9 45 (by omega)), bLI (h9 46 (by omega)), bLI (h9 47 (by omega)), bLI (h9 48 (by omega)), bLI (h9 49 (by omega)), bLI (h9 50 (by omega)), bLI (h9 51 (by omega)), bLI (h9 52 (by omega)), bLI (h9 53 (by omega)), bLI (h9 54 (by omega)), bLI (h9 55 (by omega)), bLI (h9 56 (by omega)), bLI (h9 57 (by omega)), bLI (h9 58 (by omega)), bLI (h9 59 (by omega)), bLI (h9 60 (by omega)), bLI (h9 61 (by omega)), bLI (h9 62 (by omega)), bLI (h9 63 (by omega))]
  rw [bLI (h10 0 (by omega)), bLI (h10 1 (by omega)), bLI (h10 2 (by omega)), bLI (h10 3 (by omega)), bLI (h10 4 (by omega)), bLI (h10 5 (by omega)), bLI (h10 6 (by omega)), bLI (h10 7 (by omega)), bLI (h10 8 (by omega)), bLI (h10 9 (by omega)), bLI (h10 10 (by omega)), bLI (h10 11 (by omega)), bLI (h10 12 (by omega)), bLI (h10 13 (by omega)), bLI (h10 14 (by omega)), bLI (h10 15 (by omega)), bLI (h10 16 (by omega)), bLI (h10 17 (by omega)), bLI (h10 18 (by omega)), bLI (h10 19 (by omega)), bLI (h10 20 (by omega)), bLI (h10 21 (by omega)), bLI (h10 22 (by omega)), bLI (h10 23 (by omega)), bLI (h10 24 (by omega)), bLI (h10 25 (by omega)), bLI (h10 26 (by omega)), bLI (h10 27 (by omega)), bLI (h10 28 (by omega)), bLI (h10 29 (by omega)), bLI (h10 30 (by omega)), bLI (h10 31 (by omega)), bLI (h10 32 (by omega)), bLI (h10 33 (by omega)), bLI (h10 34 (by omega)), bLI (h10 35 (by omega)), bLI (h10 36 (by omega)), bLI (h10 37 (by omega)), bLI (h10 38 (by omega)), bLI (h10 39 (by omega)), bLI (h10 40 (by omega)), bLI (h10 41 (by omega)), bLI (h10 42 (by omega)), bLI (h10 43 (by omega)), bLI (h10 44 (by omega)), bLI (h10 45 (by omega)), bLI (h10 46 (by omega)), bLI (h10 47 (by omega)), bLI (h10 48 (by omega)), bLI (h10 49 (by omega)), bLI (h10 50 (by omega)), bLI (h10 51 (by omega)), bLI (h10 52 (by omega)), bLI (h10 53 (by omega)), bLI (h10 54 (by omega)), bLI (h10 55 (by omega)), bLI (h10 56 (by omega)), bLI (h10 57 (by omega)), bLI (h10 58 (by omega)), bLI (h10 59 (by omega)), bLI (h10 60 (by omega)), bLI (h10 61 (by omega)), bLI (h10 62 (by omega)), bLI (h10 63 (by omega))]
  simp only [beq_self_eq_true, Bool.and_self, if_true]
  rw [bX hlen, bI, show (((([] : List En).length : Nat) : Int) == 0) = true from rfl, ifT, ifD (by omega), bX aw, bB]
  exact ⟨_, rfl⟩

end Go.Proofs.Ytjcmnchkgnmooaa
