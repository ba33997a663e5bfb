/- BatchPlays: the claims that are made; the row. -/
import Derived.Test.YtjmeilpffmhojaaRows
import Derived.Test.YtjmeilpffmhojaaBatchE
import Derived.Test.YtjmeilpffmhojaaAxArg
set_option linter.unusedVariables false
set_option linter.unusedSimpArgs false
namespace Go.Proofs.Ytjmeilpffmhojaa
open Go Go.Ax

theorem agg8 (a b c d e f g h : Value) : aggOf? 8 (.agg #[a, b, c, d, e, f, g, h]) = some [a, b, c, d, e, f, g, h] := rfl
theorem get4 {α : Type} (a b c d e : α) (l : List α) : (a :: b :: c :: d :: e :: l)[4]? = some e := rfl
theorem get5 {α : Type} (a b c d e f : α) (l : List α) : (a :: b :: c :: d :: e :: f :: l)[5]? = some f := rfl
theorem get6 {α : Type} (a b c d e f g : α) (l : List α) : (a :: b :: c :: d :: e :: f :: g :: l)[6]? = some g := rfl
theorem get7 {α : Type} (a b c d e f g h : α) (l : List α) : (a :: b :: c :: d :: e :: f :: g :: h :: l)[7]? = some h := rfl

theorem unew {g : Bool} {all size : Int} (hg : g = true ↔ CFit all size) (M : AMem) :
    ∃ M' q, LL.call 16 [.int .i64 all, .int .i64 size] M = some (.pointer q, M') ∧ PtrOK M' g all size q .init ∧ Same M M' [] ∧ (∀ x ∈ blk q, M.length ≤ x) ∧ Option.isNone q = !g := by
  cases g with
  | true =>
    obtain ⟨M', h1, h2, h3, h4⟩ := bnew_spec (hg.1 rfl) M
    exact ⟨M', _, h1, ⟨fun _ => ⟨_, rfl, h2⟩, fun e => by cases e⟩, h3, by simp, rfl⟩
  | false =>
    have := bnew_none (fun h => by have := hg.2 h; cases this) M
    exact ⟨M, none, this, ⟨fun e => by (cases e), fun _ => ⟨rfl, rfl⟩⟩, .refl _ _, by simp, rfl⟩

def gA (g : Bool) (x : Int) : Int := if g = true then x else 0

theorem encQ_init (g : Bool) (all size : Int) : encQ g all size .init = [.int .i64 (gA g all), .int .i64 (gA g size), .int .i64 0, .bool false, .bool false, .int .u64 0, .int .i64 0, .int .i64 0] := by
  cases g <;> rfl

theorem urnew {g : Bool} {all size : Int} (hg : g = true ↔ CFit all size) :
    ∃ M', LL.call 15 [.int .i64 all, .int .i64 size] [] = some (.tuple #[.agg #[.int .i64 (gA g all), .int .i64 (gA g size), .int .i64 0, .bool false, .bool false, .int .u64 0, .int .i64 0, .int .i64 0], .bool g], M') := by
  cases g with
  | true => exact rnewc_spec (hg.1 rfl)
  | false => exact rnewc_none (fun h => by have := hg.2 h; cases this)

theorem init_ok (g : Bool) (all : Int) (T : Nat) : COk g all T .init := ⟨fun e => by simp [CS.init] at e, by simp [CS.init], fun _ => ⟨rfl, rfl⟩, fun _ => rfl⟩

/-- The claims made so far. -/
structure BBld (g : Bool) (all size : Int) (N0 : Nat) (M : AMem) (mb ma rb : Nat) (p : Option Addr) (pc : Nat) (pa : Option Addr) (ca : Nat) (pb : Option Addr) (cb : Nat) (qs : List (Option Addr)) (cur : Int) : Prop where
  mem : ∃ st wi, IsMem M mb ma [cur] st wi ∧ st ≤ 9 ∧ wi ≤ 9
  ref : ∃ st wi, IsRef M rb p pc [cur] st wi ∧ st ≤ 9 ∧ wi ≤ 9
  sa : Slc M 1 pa qs.length ca (qs.map .pointer)
  sb : Slc M 8 pb qs.length cb ((List.replicate qs.length CS.init).flatMap (encQ g all size))
  el : ∀ q ∈ qs, PtrOK M g all size q .init
  nd : (mb :: ma :: rb :: blk p).Nodup
  na : ∀ x ∈ blk pa, x ∉ (mb :: ma :: rb :: blk p)
  nb : ∀ x ∈ blk pb, x ∉ (mb :: ma :: rb :: blk p) ∧ x ∉ blk pa
  qn : ∀ q ∈ qs, ∀ x ∈ blk q, x ∉ (mb :: ma :: rb :: blk p) ∧ x ∉ blk pa ∧ x ∉ blk pb
  qd : ∀ (i j : Nat) (q r : Option Addr), qs[i]? = some q → qs[j]? = some r → i ≠ j → ∀ x ∈ blk q, x ∉ blk r
  ge : ∀ x ∈ (mb :: ma :: rb :: blk p), N0 ≤ x
  gea : ∀ x ∈ blk pa, N0 ≤ x
  geb : ∀ x ∈ blk pb, N0 ≤ x
  qg : ∀ q ∈ qs, ∀ x ∈ blk q, N0 ≤ x
  ql : ∀ q ∈ qs, ∀ x ∈ blk q, x < M.length
  le : N0 ≤ M.length
  cur0 : 0 ≤ cur

theorem BBld.sep {g : Bool} {all size : Int} {N0 : Nat} {M : AMem} {mb ma rb : Nat} {p : Option Addr} {pc a ca b cb : Nat} {qs : List (Option Addr)} {cur : Int} (h : BBld g all size N0 M mb ma rb p pc (some ⟨a, 0, none⟩) ca (some ⟨b, 0, none⟩) cb qs cur) :
    BSep N0 mb ma rb p a b qs := by
  have ha := h.na a (by simp)
  have hb := h.nb b (by simp)
  have nd := h.nd
  refine ⟨?_, ?_, h.qd, ?_, h.qg⟩
  · simp only [List.nodup_cons, List.mem_cons, not_or, blk_some, List.not_mem_nil, or_false] at nd ha hb ⊢
    obtain ⟨⟨d1, d2, d3⟩, ⟨d4, d5⟩, d6, d7⟩ := nd
    obtain ⟨a1, a2, a3, a4⟩ := ha
    obtain ⟨⟨b1, b2, b3, b4⟩, b5⟩ := hb
    exact ⟨⟨d1, d2, Ne.symm a1, Ne.symm b1, d3⟩, ⟨d4, Ne.symm a2, Ne.symm b2, d5⟩, ⟨Ne.symm a3, Ne.symm b3, d6⟩, ⟨Ne.symm b5, a4⟩, b4, d7⟩
  · intro q hq x hx
    obtain ⟨h1, h2, h3⟩ := h.qn q hq x hx
    simp only [List.mem_cons, not_or, blk_some, List.not_mem_nil, or_false] at h1 h2 h3 ⊢
    exact ⟨h1.1, h1.2.1, h1.2.2.1, h2, h3, h1.2.2.2⟩
  · intro x hx
    simp only [List.mem_cons] at hx
    rcases hx with hx | hx | hx | hx | hx | hx
    · exact h.ge x (by simp [hx])
    · exact h.ge x (by simp [hx])
    · exact h.ge x (by simp [hx])
    · exact h.gea x (by simp [hx])
    · exact h.geb x (by simp [hx])
    · exact h.ge x (by simp [hx])

theorem bld_loop {g : Bool} {all size : Int} (hg : g = true ↔ CFit all size) (hb : -9223372036854775808 ≤ all ∧ all ≤ 9223372036854775807) (hsz : -9223372036854775808 ≤ size ∧ size ≤ 9223372036854775807) {N0 : Nat} {mb ma rb : Nat} {p : Option Addr} {pc : Nat}
    {o : Option Addr} {oc : Nat} {ord : List Int} (hord : ∀ x ∈ ord, 0 ≤ x ∧ x < 256) (hoL : ord.length ≤ 80) (ho : ∀ x ∈ blk o, 0 < ord.length → x < N0) {n : Int} {N : Nat} (hN : IntKind.wrap .i64 (1 + Int.tmod (IntKind.wrap .i64 n) 8) = (N : Int)) (hN1 : 1 ≤ N) (hN8 : N ≤ 8) {cur : Int} :
    ∀ (d j : Nat) (M : AMem) (pa : Option Addr) (ca : Nat) (pb : Option Addr) (cb : Nat) (qs : List (Option Addr)), j + d = N → qs.length = j → RdI M .u8 o ord.length ord → BBld g all size N0 M mb ma rb p pc pa ca pb cb qs cur →
      ∃ M', P3_26 LL all size n o ord.length oc rb (some ⟨mb, 0, none⟩) pa j ca pb j cb j M = some (.bool true, M') := by
  intro d
  induction d with
  | zero =>
    intro j M pa ca pb cb qs hj hq hr hv
    obtain rfl : j = N := by omega
    rw [P3_26_eq LL L_loop, hN, P3_30_eq]
    simp only [Int.lt_irrefl, decide_false, Bool.false_eq_true, if_false, P3_51_eq]
    obtain ⟨a, rfl, ha⟩ := hv.sa.pos (by omega)
    obtain ⟨b, rfl, hbb⟩ := hv.sb.pos (by omega)
    have c1 : ca = 1 := by
      rcases hv.sa.2 with ⟨e, _⟩ | ⟨_, _, e, _⟩
      · cases e
      · exact e
    have c8 : cb = 8 := by
      rcases hv.sb.2 with ⟨e, _⟩ | ⟨_, _, e, _⟩
      · cases e
      · exact e
    subst c1 c8
    have hs := hv.sep
    have hd : rb ≠ mb ∧ mb ∉ blk p := by
      have := hv.nd
      simp only [List.nodup_cons, List.mem_cons, not_or] at this
      exact ⟨Ne.symm this.1.2.1, this.1.2.2⟩
    have hinv : BInv g all size M mb ma rb p pc a b qs (List.replicate qs.length CS.init) cur 0 := ⟨by
      obtain ⟨st, wi, x1, x2, x3⟩ := hv.mem; exact ⟨st, wi, x1, by omega, by omega⟩, by
      obtain ⟨st, wi, x1, x2, x3⟩ := hv.ref; exact ⟨st, wi, x1, by omega, by omega⟩, ha, hbb, by simp, fun i q s h1 h2 => by
        have : s = .init := by
          have := List.mem_of_getElem? h2
          exact (List.mem_replicate.1 this).2
        subst this
        exact ⟨hv.el q (List.mem_of_getElem? h1), init_ok _ _ _⟩, hv.cur0⟩
    obtain ⟨M', e⟩ := plays35_loop (oc := oc) (fun e => hg.1 e) hs (by omega) (by omega) hord hoL ho (fun M ss cur T h1 h2 => plays35_end hb hsz hd M ss cur T h1 h2) ord.length 0 M _ cur 0 (by omega) hr (by omega) hinv
    rw [List.length_replicate, hq] at e
    exact ⟨M', e⟩
  | succ d ih =>
    intro j M pa ca pb cb qs hj hq hr hv
    obtain ⟨_, r1⟩ := urnew hg
    have e0 := cells_new M [.int .i64 0, .int .i64 0, .int .i64 0, .bool false, .bool false, .int .u64 0, .int .i64 0, .int .i64 0] 0
    have s0 := same_app M [AObj.cells [.int .i64 0, .int .i64 0, .int .i64 0, .bool false, .bool false, .int .u64 0, .int .i64 0, .int .i64 0] ⟨false, 0⟩]
    obtain ⟨M15, w1, w2, w3, w4⟩ := e0.wr (o := 0) (vs := [.int .i64 (gA g all), .int .i64 (gA g size), .int .i64 0, .bool false, .bool false, .int .u64 0, .int .i64 0, .int .i64 0]) (by simp)
    have w2' : Cells M15 M.length [.int .i64 (gA g all), .int .i64 (gA g size), .int .i64 0, .bool false, .bool false, .int .u64 0, .int .i64 0, .int .i64 0] := by simpa [wrL] using w2
    have s15 : Same M M15 [] := (s0.trans w3).mono' (by simp)
    have l15 : M15.length = M.length + 1 := by rw [w4]; simp
    obtain ⟨M16, q, n1, n2, n3, n4, n5⟩ := unew hg M15
    have s16 : Same M M16 [] := (s15.trans n3).mono (by simp)
    have la := hv.sa.lt
    have lb := hv.sb.lt
    have l16 := n3.le
    obtain ⟨M22, k1, k2, k3, k4⟩ := append_row (bytes := 8) (v := 0) (m := 1) (new := [.pointer q]) (hv.sa.same s16 (by simp)) (by simp) (by omega) (by rw [hq]; omega)
    have row1 := rowOf_new M16 1 1 [.pointer q] 0 1 (by simp)
    have x22 := (w2'.same n3 (by simp)).same k3 (fun hx => by have := la _ hx; omega)
    have sb16 := hv.sb.same s16 (by simp)
    have sb22 := sb16.same k3 (fun x hx => (hv.nb x hx).2)
    obtain ⟨M35, y1, y2, y3, y4⟩ := append_row (bytes := 56) (v := 0) (m := 1) (new := encQ g all size .init) sb22 (by rw [encQ_length]) (by omega) (by rw [hq]; omega)
    rw [encQ_init] at y1
    have row2 := rowOf_new M22 8 1 [.int .i64 (gA g all), .int .i64 (gA g size), .int .i64 0, .bool false, .bool false, .int .u64 0, .int .i64 0, .int .i64 0] 0 8 (by simp)
    have hlt : (j : Int) < (N : Int) := by omega
    have wj : IntKind.wrap .i64 ((j : Int) + 1) = ((j + 1 : Nat) : Int) := by rw [w64 (by omega)]; rfl
    have hne : (!((!(!g)) == g)) = false := by cases g <;> rfl
    have hall : Same M M35 (blk pa ++ blk pb) := ((s16.trans k3).trans y3).mono (by simp)
    have hsl : ∀ x, x < M.length → x ∉ blk pa → x ∉ blk pb → x ∉ blk pa ++ blk pb := fun x _ h1 h2 => by simp [h1, h2]
    obtain ⟨st, wi, m1, m2, m3⟩ := hv.mem
    obtain ⟨st2, wi2, r1', r2, r3⟩ := hv.ref
    have f1 : ∀ x, x ∈ (mb :: ma :: rb :: blk p) → x ∉ blk pa ++ blk pb := fun x hx => by
      simp only [List.mem_append, not_or]
      exact ⟨fun h => hv.na x h hx, fun h => (hv.nb x h).1 hx⟩
    have fl : ∀ x, x ∈ (mb :: ma :: rb :: blk p) → x < M.length := fun x hx => by
      simp only [List.mem_cons] at hx
      rcases hx with rfl | rfl | rfl | hx
      · exact m1.hd.lt
      · exact m1.cs.lt
      · exact r1'.hd.lt
      · exact r1'.cs.lt x hx
    have hbld : BBld g all size N0 M35 mb ma rb p pc (some ⟨M16.length + 1, 0, none⟩) 1 (some ⟨M22.length + 1, 0, none⟩) 8 (qs ++ [q]) cur := by
      have l22 := k3.le
      have l35 := y3.le
      have l00 := hv.le
      refine ⟨⟨st, wi, m1.same hall (f1 _ (by simp)) (f1 _ (by simp)), m2, m3⟩, ⟨st2, wi2, r1'.same hall (f1 _ (by simp)) (fun x hx => f1 _ (by simp [hx])), r2, r3⟩, ?_, ?_, ?_, hv.nd, ?_, ?_, ?_, ?_, hv.ge, ?_, ?_, ?_, ?_, by omega, hv.cur0⟩
      · have := k2.same y3 (fun x hx hb => by simp at hx; have := lb x hb; omega)
        rw [List.map_append, List.length_append]
        exact this
      · rw [List.length_append, List.length_singleton, List.replicate_succ', List.flatMap_append]
        simpa using y2
      · intro q' hq'
        rcases List.mem_append.1 hq' with hq' | hq'
        · refine (hv.el q' hq').same hall fun x hx => ?_
          have := hv.qn q' hq' x hx
          simp only [List.mem_append, not_or]
          exact ⟨this.2.1, this.2.2⟩
        · obtain rfl := List.mem_singleton.1 hq'
          exact (n2.same k3 fun x hx hb => by have := n4 x hx; have := la x hb; omega).same y3 fun x hx hb => by have := n4 x hx; have := lb x hb; omega
      · intro x hx hm
        simp at hx
        have := fl x hm; omega
      · intro x hx
        simp at hx
        exact ⟨fun hm => by have := fl x hm; omega, by simp; omega⟩
      · intro q' hq' x hx
        have hx16 : x < M16.length := by
          rcases List.mem_append.1 hq' with hq' | hq'
          · have := hv.ql q' hq' x hx; omega
          · obtain rfl := List.mem_singleton.1 hq'
            cases g with
            | true => obtain ⟨c, rfl, hc⟩ := n2.1 rfl; simp at hx; subst hx; exact hc.lt
            | false => obtain ⟨rfl, _⟩ := n2.2 rfl; simp at hx
        refine ⟨fun hm => ?_, by simp; omega, by simp; omega⟩
        rcases List.mem_append.1 hq' with hq' | hq'
        · exact (hv.qn q' hq' x hx).1 hm
        · obtain rfl := List.mem_singleton.1 hq'
          have := n4 x hx; have := fl x hm; omega
      · intro i k q1 q2 h1 h2 hik x hx1 hx2
        by_cases hi : i < qs.length
        · rw [List.getElem?_append_left hi] at h1
          have lx := hv.ql q1 (List.mem_of_getElem? h1) x hx1
          by_cases hk : k < qs.length
          · rw [List.getElem?_append_left hk] at h2
            exact hv.qd i k q1 q2 h1 h2 hik x hx1 hx2
          · have := List.mem_of_getElem? h2
            rw [List.getElem?_append_right (by omega)] at h2
            have e := List.mem_singleton.1 (List.mem_of_getElem? h2)
            subst e
            have := n4 x hx2; omega
        · have hi' := (List.getElem?_eq_some_iff.1 h1).1
          simp at hi'
          rw [List.getElem?_append_right (by omega)] at h1
          have e := List.mem_singleton.1 (List.mem_of_getElem? h1)
          subst e
          have g1 := n4 x hx1
          have hk' := (List.getElem?_eq_some_iff.1 h2).1
          simp at hk'
          rw [List.getElem?_append_left (by omega)] at h2
          have := hv.ql q2 (List.mem_of_getElem? h2) x hx2; omega
      · intro x hx; simp at hx; omega
      · intro x hx; simp at hx; omega
      · intro q' hq' x hx
        rcases List.mem_append.1 hq' with hq' | hq'
        · exact hv.qg q' hq' x hx
        · obtain rfl := List.mem_singleton.1 hq'
          have := n4 x hx; omega
      · intro q' hq' x hx
        rcases List.mem_append.1 hq' with hq' | hq'
        · have := hv.ql q' hq' x hx; omega
        · obtain rfl := List.mem_singleton.1 hq'
          cases g with
          | true => obtain ⟨c, rfl, hc⟩ := n2.1 rfl; simp at hx; subst hx; have := hc.lt; omega
          | false => obtain ⟨rfl, _⟩ := n2.2 rfl; simp at hx
    have hr35 : RdI M35 .u8 o ord.length ord := by
      by_cases h0 : 0 < ord.length
      · exact hr.same hall fun x hx => by
          have := ho x hx h0
          simp only [List.mem_append, not_or]
          exact ⟨fun h => by have := hv.gea x h; omega, fun h => by have := hv.geb x h; omega⟩
      · exact ⟨hr.1, fun h => absurd h h0⟩
    obtain ⟨M', e⟩ := ih (j + 1) M35 _ _ _ _ _ (by omega) (by simp [hq]) hr35 hbld
    refine ⟨M', ?_⟩
    rw [P3_26_eq LL L_loop, hN, P3_30_eq]
    rw [hq] at k1 y1
    have l0 : M22.ld M.length 0 = some (.int .i64 (gA g all)) := x22.ld 0
    have l1 : M22.ld M.length 1 = some (.int .i64 (gA g size)) := x22.ld 1
    have l2 : M22.ld M.length 2 = some (.int .i64 0) := x22.ld 2
    have l3 : M22.ld M.length 3 = some (.bool false) := x22.ld 3
    have l4 : M22.ld M.length 4 = some (.bool false) := x22.ld 4
    have l5 : M22.ld M.length 5 = some (.int .u64 0) := x22.ld 5
    have l6 : M22.ld M.length 6 = some (.int .i64 0) := x22.ld 6
    have l7 : M22.ld M.length 7 = some (.int .i64 0) := x22.ld 7
    simp only [hlt, decide_true, if_true, r1, Option.bind_some, tup2, get0, get1, agg8, get2, get3, get4, get5, get6, get7, intOf_int, boolOf_bool, w1, n1, ptrOf_ptr, n5, hne, Bool.false_eq_true, if_false, row1, k1, l0, l1, l2, l3, l4, l5, l6, l7, row2, y1,
      P3_50_eq, wj]
    exact e

theorem bplays (M : AMem) (all size n at_ : Int) (o : Option Addr) (oc : Nat) (ord : List Int) (hb : -9223372036854775808 ≤ all ∧ all ≤ 9223372036854775807) (hsz : -9223372036854775808 ≤ size ∧ size ≤ 9223372036854775807) (hn : 0 ≤ n ∧ n ≤ 255) (hat : 0 ≤ at_)
    (hr : RdI M .u8 o ord.length ord) (hord : ∀ x ∈ ord, 0 ≤ x ∧ x < 256) (ho : ∀ x ∈ blk o, 0 < ord.length → x < M.length) :
    ∃ M', LL.call 3 [.int .i64 all, .int .i64 size, .int .u8 n, .slice o ord.length oc, .int .u64 at_] M = some (.bool true, M') := by
  rw [L_call3, E3]
  obtain ⟨_, aw⟩ := awake35
  by_cases hlen : Int.ofNat ord.length > 80
  · simp only [hlen, decide_true, if_true, aw, Option.bind_some, boolOf_bool]; exact ⟨_, rfl⟩
  obtain ⟨M1, p, r1, r2, r3, r4⟩ := rnew_spec 1 M (by omega)
  have e0 := cells_new M1 [.slice none 0 0, .int .i64 0, .int .i64 0] 0
  have s0 := same_app M1 [AObj.cells [.slice none 0 0, .int .i64 0, .int .i64 0] ⟨false, 0⟩]
  obtain ⟨M2, w1, w2, w3, w4⟩ := e0.wr (o := 0) (vs := [.slice p 1 1, .int .i64 0, .int .i64 0]) (by simp)
  have w2' : Cells M2 M1.length [.slice p 1 1, .int .i64 0, .int .i64 0] := by simpa [wrL] using w2
  have s2 : Same M1 M2 [] := (s0.trans w3).mono' (by simp)
  have l2 : M2.length = M1.length + 1 := by rw [w4]; simp
  have lp := r2.lt
  have href2 : IsRef M2 M1.length p 1 [0] 0 0 := ⟨w2', by simpa using r2.same s2 (by simp), fun hx => by have := lp _ hx; omega⟩
  obtain ⟨M3, mb, ma, c1, c2, c3, c4, c5, c6, c7⟩ := new_spec 1 M2 (by omega)
  have c2' : IsMem M3 mb ma [0] 0 0 := c2
  have href3 := href2.same c3 (by simp) (by simp)
  have lp2 := (href2.cs.lt)
  obtain ⟨M4, d1, d2, d3⟩ := rcas_spec href3 (by omega) (by omega) 0 0 at_
  have l1 := r3.le
  have mem4 := c2'.same d3 (by simp; exact ⟨by omega, fun hx => by have := lp2 _ hx; omega⟩) (by simp; exact ⟨by omega, fun hx => by have := lp2 _ hx; omega⟩)
  obtain ⟨M5, f1, f2, f3⟩ := cas_spec mem4 (by omega) (by omega) 0 0 at_
  have hc : casB [0] 0 0 = true := by decide
  have hl : casL [0] 0 0 at_ = [at_] := by unfold casL; rw [hc, if_pos rfl]; rfl
  rw [hl, hc, if_pos rfl] at d2 f2
  have d2' := d2.same f3 (by simp; omega) (fun x hx => by have := lp2 x hx; simp; omega)
  have hall : Same M M5 [] := ((r3.trans s2).trans (c3.trans (d3.trans f3))).mono' (by
    intro x hx hlt
    simp at hx
    rcases hx with (h | h) | h | h
    · omega
    · have := r4 x h; omega
    · omega)
  let N : Nat := 1 + n.toNat % 8
  have hN : IntKind.wrap .i64 (1 + Int.tmod (IntKind.wrap .i64 n) 8) = (N : Int) := by
    have a1 : IntKind.wrap .i64 n = n := w64 (by omega)
    have a2 : Int.tmod n 8 = n % 8 := Int.tmod_eq_emod_of_nonneg (by omega)
    rw [a1, a2, w64 (by omega)]
    show _ = ((1 + n.toNat % 8 : Nat) : Int)
    omega
  let g : Bool := decide (0 ≤ all ∧ all ≤ 1048576 ∧ 1 ≤ size ∧ size ≤ 65536)
  have hg : g = true ↔ CFit all size := by
    simp only [g, decide_eq_true_eq]
    exact ⟨fun h => ⟨h.1, h.2.1, h.2.2.1, h.2.2.2⟩, fun h => ⟨h.a0, h.a1, h.s0, h.s1⟩⟩
  have l3 := c3.le
  have l4 := d3.le
  have l5 := f3.le
  have hpge : ∀ x ∈ blk p, M.length ≤ x := r4
  have hbld : BBld g all size M.length M5 mb ma M1.length p 1 none 0 none 0 [] at_ := by
    refine ⟨⟨_, _, f2, by omega, by omega⟩, ⟨_, _, d2', by omega, by omega⟩, .nil _ _ _, .nil _ _ _, by simp, ?_, by simp, by simp, by simp, by simp, ?_, by simp, by simp, by simp, by simp, by omega, hat⟩
    · obtain ⟨pb, rfl, _⟩ := d2'.cs.pos (by simp)
      have := lp2 pb (by simp)
      have := lp pb (by simp)
      simp only [blk_some, List.nodup_cons, List.mem_cons, not_or, List.not_mem_nil, or_false, not_false_eq_true, true_and, and_true, List.nodup_nil]
      have := c2.ne
      exact ⟨⟨by omega, by omega, by omega⟩, ⟨by omega, by omega⟩, by omega⟩
    · intro x hx
      simp only [List.mem_cons] at hx
      rcases hx with rfl | rfl | rfl | hx
      · omega
      · omega
      · omega
      · exact hpge x hx
  obtain ⟨M', e⟩ := bld_loop (oc := oc) hg hb hsz hord (by rw [ofN] at hlen; omega) ho hN (by omega) (by omega) N 0 M5 none 0 none 0 [] (by omega) rfl (hr.same hall (by simp)) hbld
  refine ⟨M', ?_⟩
  have t1 : Int.toNat 1 = 1 := rfl
  simp only [hlen, decide_false, Bool.false_eq_true, if_false, r1, t1, Option.bind_some, tup2, agg3, get0, get1, get2, sliceOf_slice, intOf_int, boolOf_bool, w1, c1, ptrOf_ptr, d1, f1]
  exact e

open Go.ChangeShapes Go.WideShapes Go.ChangeAt Go.RowKit

theorem bplays_main (A : AMem) (vs : List Value) (h : HoldsA A [(false, [.int .i64]), (false, [.int .i64]), (false, [.int .u8]), (false, [.slice [.int .u8]]), (false, [.int .u64])] vs) :
    ∃ A', (lim env).call 3 vs A = some (.bool true, A') := by
  obtain ⟨_, _, rfl, ha, _, _, rfl, hz, _, _, rfl, hn, _, _, rfl, hs, _, _, rfl, ht, rfl⟩ := h
  simp only [HoldsV, HoldsL, Holds, Bool.false_eq_true, if_false] at ha hz hn ht
  unfold HoldsV at hs
  rw [if_neg (by simp)] at hs
  obtain ⟨_, _, e, ⟨all, rfl, ha⟩, rfl⟩ := ha; cases e
  obtain ⟨_, _, e, ⟨size, rfl, hz⟩, rfl⟩ := hz; cases e
  obtain ⟨_, _, e, ⟨n, rfl, hn⟩, rfl⟩ := hn; cases e
  obtain ⟨_, _, e, ⟨t, rfl, ht⟩, rfl⟩ := ht; cases e
  obtain ⟨v', _, e, hs, h'⟩ := holdsL_cons hs
  cases e
  obtain ⟨p, l, rfl, h1, h2, h3⟩ := holds_list (fun x => [Value.int .u8 x]) (fun x => (Lit.int .u8 x).wf = true) (by simp) hs fun cs hc => by
    simp only [HoldsL, Holds] at hc
    obtain ⟨_, _, rfl, ⟨x0, rfl, hx⟩, rfl⟩ := hc
    exact ⟨x0, hx, rfl⟩
  have := bplays A all size n t p 0 l (bounds_i64 ha) (bounds_i64 hz) (bounds_u8 hn) (bounds_u64 ht).1 h1.rdI (fun x hx => by have := bounds_u8 (h2 x hx); omega) (fun x hx h0 => h1.lt h0 x hx)
  rw [LL_lim] at this
  exact this

theorem batchPlays_lifted (os : Os) (started : os.Started) (H : Type) (enc : TypeId × Value → H) :
    ReturnsInHanded {} Try.checked os 3 .any (Rows.batchPlaysSpec.pre6 enc Try.prog Try.f3 Rows.batchPlaysRow.domain false) (Rows.batchPlaysSpec.post enc Try.prog Try.f3 false true false false) :=
  lifted_of_args (C := Try.checked) (E := env) (by kernel_rfl) started (by kernel_rfl) Try.func3
    (ChangeSpec.witness6 (enc := enc) (C := Try.checked) false ⟨#[], #[.int .i64 0, .int .i64 0, .int .u8 0, .slice none 0 0, .int .u64 0], []⟩ 8 (by kernel_rfl) (by kernel_rfl) (by kernel_rfl) (by kernel_rfl))
    (by kernel_rfl) (by kernel_rfl) (by kernel_rfl : Try.f3.resultTypes = #[4]) (by kernel_rfl) rfl
    (fun ds hd => by
      match ds, hd with
      | [d1, d2, d3, d4, d5], _ => rfl) envOk (by kernel_rfl) (by kernel_rfl) bplays_main

theorem batchPlays_holds : Rows.BatchPlaysSaid :=
  OpenClaim.holds_of_wide 3 Try.f3 rfl rfl rfl rfl rfl rfl rfl ⟨rfl, rfl, rfl, rfl, rfl⟩ rfl rfl rfl rfl rfl (by kernel_rfl) Try.func3 (by kernel_rfl)
    (of_decide_eq_true (by kernel_rfl)) (by unfold Func.isWrapper; rw [if_neg (of_decide_eq_false (by kernel_rfl))]; exact ⟨rfl, rfl⟩)
    (fun os started H enc _ => batchPlays_lifted os started H enc)


end Go.Proofs.Ytjmeilpffmhojaa
