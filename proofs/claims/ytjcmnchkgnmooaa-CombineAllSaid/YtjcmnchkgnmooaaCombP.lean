/- The program's buffers: what stands in one; Put, Len. -/
import Derived.Test.YtjcmnchkgnmooaaEqComb
import Derived.Test.YtjcmnchkgnmooaaEqHue
import Derived.Test.YtjcmnchkgnmooaaLayout
import Derived.Test.YtjcmnchkgnmooaaEntP
import Derived.Test.YtjcmnchkgnmooaaAxD
set_option linter.unusedVariables false
set_option linter.unusedSimpArgs false
namespace Go.Proofs.Ytjcmnchkgnmooaa
open Go Go.Ax

abbrev bp (b : Nat) : Value := .pointer (some ⟨b, 0, none⟩)

/-! ### weights -/

def Wt (a b c : Int) : Prop := (0 ≤ a ∧ a ≤ 1099511627776) ∧ (0 ≤ b ∧ b ≤ 1099511627776) ∧ (0 ≤ c ∧ c ≤ 1099511627776)
instance (a b c : Int) : Decidable (Wt a b c) := by unfold Wt; infer_instance

theorem within_spec (a b c m : Int) : ∃ M, LL.call 19 [.agg #[.int .i64 a, .int .i64 b, .int .i64 c], .int .i64 m] [] = some (.bool (decide ((0 ≤ a ∧ a ≤ m) ∧ (0 ≤ b ∧ b ≤ m) ∧ (0 ≤ c ∧ c ≤ m))), M) := by
  rw [L_call19, E19]
  have step : ∀ (i : Nat) (v : Int), i < 3 → ([a, b, c] : List Int)[i]? = some v → ∀ m0 m1 m2, P19_6 LL m a b c (i : Int) m0 m1 m2 = if v < 0 ∨ v > m then some (.bool false, [AObj.cells [.int .i64 m0, .int .i64 m1, .int .i64 m2] ⟨false, 0⟩]) else P19_6 LL m a b c ((i + 1 : Nat) : Int) m0 m1 m2 := fun i v hi hv m0 m1 m2 => by
    have hg : (0 : Int) ≤ (i : Int) ∧ (i : Int) < 3 := by omega
    have hw : IntKind.wrap .i64 ((i : Int) + 1) = ((i + 1 : Nat) : Int) := by rw [w64 (by omega)]; rfl
    have hv' : ([a, b, c] : List Int)[((Int.toNat (i : Int)) * 1)]? = some v := by rw [Int.toNat_natCast, Nat.mul_one]; exact hv
    rw [P19_6_eq LL L_loop, ifD (by omega), if_pos hg, bX hv']
    by_cases c1 : v < 0
    · rw [ifD c1, if_pos (.inl c1)]
    · by_cases c2 : v > m
      · rw [ifDn c1, ifD c2, if_pos (.inr c2)]
      · rw [ifDn c1, ifDn c2, if_neg (by omega), P19_24_eq, hw]
  have s0 := step 0 a (by omega) rfl a b c
  have s1 := step 1 b (by omega) rfl a b c
  have s2 := step 2 c (by omega) rfl a b c
  have s3 : P19_6 LL m a b c ((2 + 1 : Nat) : Int) a b c = some (.bool true, [AObj.cells [.int .i64 a, .int .i64 b, .int .i64 c] ⟨false, 0⟩]) := by
    rw [P19_6_eq LL L_loop, ifDn (by omega), P19_25_eq]
  rw [show (0 : Int) = ((0 : Nat) : Int) from rfl, s0]
  by_cases c0 : a < 0 ∨ a > m
  · rw [if_pos c0, decide_eq_false (by omega)]; exact ⟨_, rfl⟩
  rw [if_neg c0, show ((0 + 1 : Nat) : Int) = ((1 : Nat) : Int) from rfl, s1]
  by_cases c1 : b < 0 ∨ b > m
  · rw [if_pos c1, decide_eq_false (by omega)]; exact ⟨_, rfl⟩
  rw [if_neg c1, show ((1 + 1 : Nat) : Int) = ((2 : Nat) : Int) from rfl, s2]
  by_cases c2 : c < 0 ∨ c > m
  · rw [if_pos c2, decide_eq_false (by omega)]; exact ⟨_, rfl⟩
  rw [if_neg c2, s3, decide_eq_true (by omega)]
  exact ⟨_, rfl⟩

theorem weight_spec (a b c : Int) : ∃ M, LL.call 15 [.agg #[.int .i64 a, .int .i64 b, .int .i64 c]] [] = some (.bool (decide (Wt a b c)), M) := by
  rw [L_call15, E15, L_call18, E18]
  obtain ⟨_, k⟩ := within_spec a b c 1099511627776
  simp only [Option.bind_some, agg3, get0, get1, get2, intOf_int]
  rw [bX k, bB]
  exact ⟨_, rfl⟩

/-! ### maps -/

theorem mget_mset (x n v : Int) : ∀ es : List (Int × Int), mget x (mset n v es) = if x = n then some v else mget x es
  | [] => by simp only [mset, mget]
  | e :: r => by
    have ih := mget_mset x n v r
    simp only [mset]
    by_cases c : n = e.1
    · rw [if_pos c]
      simp only [mget]
      by_cases d : x = n
      · rw [if_pos (by rw [d, c]), if_pos d]
      · rw [if_neg (by rw [← c]; exact d), if_neg d, if_neg (by rw [← c]; exact d)]
    · rw [if_neg c]
      simp only [mget]
      by_cases d : x = e.1
      · rw [if_pos d, if_neg (by rw [d]; exact fun h => c h.symm), if_pos d]
      · rw [if_neg d, ih, if_neg d]

theorem mget_mdel (x n : Int) : ∀ es : List (Int × Int), x ≠ n → mget x (mdel n es) = mget x es
  | [], _ => rfl
  | e :: r, h => by
    have ih := mget_mdel x n r h
    simp only [mdel]
    by_cases c : n = e.1
    · rw [if_pos c]
      simp only [mget]
      rw [if_neg (by rw [← c]; exact h)]
    · rw [if_neg c]
      simp only [mget, ih]

theorem mget_none (n : Int) : ∀ es : List (Int × Int), n ∉ es.map (·.1) → mget n es = none
  | [], _ => rfl
  | e :: r, h => by
    simp only [List.map_cons, List.mem_cons, not_or] at h
    simp only [mget, if_neg h.1]
    exact mget_none n r h.2

theorem mget_self (n : Int) : ∀ es : List (Int × Int), (es.map (·.1)).Nodup → mget n (mdel n es) = none
  | [], _ => rfl
  | e :: r, h => by
    simp only [List.map_cons, List.nodup_cons] at h
    simp only [mdel]
    by_cases c : n = e.1
    · rw [if_pos c]; exact mget_none n r (by rw [c]; exact h.1)
    · rw [if_neg c]
      simp only [mget, if_neg c]
      exact mget_self n r h.2

theorem mset_keys (n v : Int) : ∀ es : List (Int × Int), ∀ k, k ∈ (mset n v es).map (·.1) → k = n ∨ k ∈ es.map (·.1)
  | [], k, h => by simp [mset] at h; exact .inl h
  | e :: r, k, h => by
    simp only [mset] at h
    by_cases c : n = e.1
    · rw [if_pos c] at h; exact .inr (by simpa using h)
    · rw [if_neg c] at h
      simp only [List.map_cons, List.mem_cons] at h ⊢
      rcases h with h | h
      · exact .inr (.inl h)
      · rcases mset_keys n v r k h with h | h
        · exact .inl h
        · exact .inr (.inr h)

theorem mset_nodup (n v : Int) : ∀ es : List (Int × Int), (es.map (·.1)).Nodup → ((mset n v es).map (·.1)).Nodup
  | [], _ => by simp [mset]
  | e :: r, h => by
    have h' := h
    simp only [List.map_cons, List.nodup_cons] at h
    simp only [mset]
    by_cases c : n = e.1
    · rw [if_pos c]; simpa using h'
    · rw [if_neg c]
      simp only [List.map_cons, List.nodup_cons]
      refine ⟨fun hm => ?_, mset_nodup n v r h.2⟩
      rcases mset_keys n v r _ hm with e' | e'
      · exact c e'.symm
      · exact h.1 e'

theorem mdel_keys (n : Int) : ∀ es : List (Int × Int), ∀ k, k ∈ (mdel n es).map (·.1) → k ∈ es.map (·.1)
  | [], k, h => by simp [mdel] at h
  | e :: r, k, h => by
    simp only [mdel] at h
    by_cases c : n = e.1
    · rw [if_pos c] at h; exact List.mem_cons_of_mem _ h
    · rw [if_neg c] at h
      simp only [List.map_cons, List.mem_cons] at h ⊢
      rcases h with h | h
      · exact .inl h
      · exact .inr (mdel_keys n r k h)

theorem mdel_nodup (n : Int) : ∀ es : List (Int × Int), (es.map (·.1)).Nodup → ((mdel n es).map (·.1)).Nodup
  | [], _ => by simp [mdel]
  | e :: r, h => by
    simp only [List.map_cons, List.nodup_cons] at h
    simp only [mdel]
    by_cases c : n = e.1
    · rw [if_pos c]; exact h.2
    · rw [if_neg c]
      simp only [List.map_cons, List.nodup_cons]
      exact ⟨fun hm => h.1 (mdel_keys n r _ hm), mdel_nodup n r h.2⟩

/-! ### entries -/

def pix (x : Int) : List En → Option Nat
  | [] => none
  | e :: r => if x = e.px then some 0 else (pix x r).map (· + 1)

theorem pix_none {x : Int} : ∀ {es : List En}, pix x es = none ↔ ∀ e ∈ es, x ≠ e.px
  | [] => by simp [pix]
  | e :: r => by
    simp only [pix]
    by_cases c : x = e.px
    · rw [if_pos c]; simp [c]
    · rw [if_neg c]; simp [c, pix_none (es := r)]

theorem pix_some {x : Int} : ∀ {es : List En} {i : Nat}, pix x es = some i → ∃ e, es[i]? = some e ∧ e.px = x
  | [], i, h => by simp [pix] at h
  | e :: r, i, h => by
    simp only [pix] at h
    by_cases c : x = e.px
    · rw [if_pos c] at h; cases h; exact ⟨e, rfl, c.symm⟩
    · rw [if_neg c] at h
      obtain ⟨j, h1, rfl⟩ := Option.map_eq_some_iff.1 h
      obtain ⟨e', h2, h3⟩ := pix_some h1
      exact ⟨e', by simpa using h2, h3⟩

theorem pix_app (x : Int) (e : En) : ∀ es : List En, pix x (es ++ [e]) = match pix x es with | some i => some i | none => if x = e.px then some es.length else none
  | [] => by simp [pix]
  | a :: r => by
    have ih := pix_app x e r
    simp only [List.cons_append, pix]
    by_cases c : x = a.px
    · rw [if_pos c, if_pos c]
    · rw [if_neg c, ih, if_neg c]
      cases pix x r with
      | some i => rfl
      | none =>
        simp only [Option.map_none, List.length_cons]
        split <;> rfl

theorem pix_set (x : Int) {e' : En} : ∀ {es : List En} {i : Nat} {e : En}, es[i]? = some e → e'.px = e.px → pix x (es.set i e') = pix x es
  | [], i, e, h, _ => by simp at h
  | a :: r, 0, e, h, he => by
    simp only [List.getElem?_cons_zero, Option.some.injEq] at h
    subst h
    simp only [List.set_cons_zero, pix, he]
  | a :: r, i + 1, e, h, he => by
    simp only [List.getElem?_cons_succ] at h
    simp only [List.set_cons_succ, pix, pix_set x h he]

theorem flat_set1 {α : Type} {k : Nat} {enc : α → List Value} (hk : ∀ x, (enc x).length = k) : ∀ (l : List α) (i j : Nat) (x y : α) (v : Value), l[i]? = some x → j < k → (enc x).set j v = enc y → (l.flatMap enc).set (i * k + j) v = (l.set i y).flatMap enc
  | [], i, j, x, y, v, h, _, _ => by simp at h
  | a :: l, 0, j, x, y, v, h, hj, he => by
    simp only [List.getElem?_cons_zero, Option.some.injEq] at h
    subst h
    rw [List.flatMap_cons, List.set_cons_zero, List.flatMap_cons, List.set_append, if_pos (by rw [hk]; omega), Nat.zero_mul, Nat.zero_add, he]
  | a :: l, i + 1, j, x, y, v, h, hj, he => by
    rw [List.flatMap_cons, List.set_cons_succ, List.flatMap_cons, List.set_append, if_neg (by rw [hk, Nat.succ_mul]; omega), hk, show (i + 1) * k + j - k = i * k + j by rw [Nat.succ_mul]; omega,
      flat_set1 hk l i j x y v (by simpa using h) hj he]

/-! ### a buffer -/

structure IsBuf (M : AMem) (b mp : Nat) (q : Option Addr) (qc : Nat) (p s room : Int) (es : List En) : Prop where
  hd : Cells M b [.int .i64 p, .int .i64 s, .int .i64 room, .map (some mp), .slice q es.length qc]
  mm : ∃ mes, M[mp]? = some (.map .i64 .i64 mes) ∧ (mes.map (·.1)).Nodup ∧ ∀ x, mget x mes = (pix x es).map Int.ofNat
  sl : Slc M 4 q es.length qc (es.flatMap encE)
  ne : mp ≠ b ∧ b ∉ blk q ∧ mp ∉ blk q
  rt : Rt p s
  nd : (es.map En.px).Nodup
  px : ∀ e ∈ es, 0 ≤ e.px ∧ e.px < p
  rm : (es.length : Int) ≤ room ∧ 1 ≤ room ∧ room ≤ 4096

def bufB (b mp : Nat) (q : Option Addr) : List Nat := b :: mp :: blk q

theorem IsBuf.same {M M' : AMem} {S : List Nat} {b mp : Nat} {q : Option Addr} {qc : Nat} {p s room : Int} {es : List En} (h : IsBuf M b mp q qc p s room es) (k : Same M M' S) (hS : ∀ x ∈ bufB b mp q, x ∉ S) : IsBuf M' b mp q qc p s room es := by
  obtain ⟨mes, m1, m2, m3⟩ := h.mm
  exact ⟨h.hd.same k (hS b (by simp [bufB])), ⟨mes, k.at m1 (hS mp (by simp [bufB])), m2, m3⟩, h.sl.same k (fun x hx => hS x (by simp [bufB, hx])), h.ne, h.rt, h.nd, h.px, h.rm⟩

theorem IsBuf.lt {M : AMem} {b mp : Nat} {q : Option Addr} {qc : Nat} {p s room : Int} {es : List En} (h : IsBuf M b mp q qc p s room es) : ∀ x ∈ bufB b mp q, x < M.length := by
  intro x hx
  obtain ⟨mes, m1, _⟩ := h.mm
  simp only [bufB, List.mem_cons] at hx
  rcases hx with rfl | rfl | hx
  · exact h.hd.lt
  · exact lt_of_get m1
  · exact h.sl.lt x hx

theorem mp_get {M : AMem} {r : Nat} {k kv : IntKind} {es : List (Int × Int)} (h : M[r]? = some (.map k kv es)) : AMem.mp M k kv (some r) = some es := by
  unfold AMem.mp
  simp [h]

theorem bAny {β : Type} {M : AMem} {b o : Nat} {r : Option Nat} (h : AMem.ld M b o = some (.map r)) (f : Value → Option β) : Option.bind (anyOf? (AMem.ld M b o)) f = f (.map r) := by rw [h]; rfl
theorem bMap {β : Type} (r : Option Nat) (f : Option Nat → Option β) : Option.bind (mapOf? (some (.map r))) f = f r := rfl

theorem bgiven {M : AMem} {b mp : Nat} {q : Option Addr} {qc : Nat} {p s room : Int} {es : List En} (h : IsBuf M b mp q qc p s room es) : LL.call 13 [bp b] M = some (.bool true, M) := by
  rw [L_call13, E13]
  have l3 : M.ld b 3 = some (.map (some mp)) := h.hd.ld 3
  simp only [Option.isNone_some, Bool.not_false, if_true, Nat.zero_add]
  rw [bAny l3]
  rfl

theorem blen_spec {M : AMem} {b mp : Nat} {q : Option Addr} {qc : Nat} {p s room : Int} {es : List En} (h : IsBuf M b mp q qc p s room es) : LL.call 9 [bp b] M = some (.int .i64 (es.length : Int), M) := by
  rw [L_call9, E9, bX (bgiven h), bB, ifNT]
  have l4 : M.ld b 4 = some (.slice q es.length qc) := h.hd.ld 4
  simp only [Nat.zero_add]
  rw [bLS l4]
  rfl

theorem bnew_spec {p s n : Int} (M : AMem) (hr : Rt p s) (hn : 1 ≤ n ∧ n ≤ 4096) :
    ∃ M' b mp, LL.call 6 [lay p s, .int .i64 n] M = some (bp b, M') ∧ IsBuf M' b mp none 0 p s n [] ∧ Same M M' [] ∧ M.length ≤ b ∧ M.length ≤ mp := by
  rw [L_call6, E6]
  have g0 := cells_new M [.int .i64 p, .int .i64 s] 0
  have s0 := same_app M [AObj.cells [.int .i64 p, .int .i64 s] ⟨false, 0⟩]
  have l0 : (M ++ [AObj.cells [.int .i64 p, .int .i64 s] ⟨false, 0⟩]).length = M.length + 1 := by simp
  generalize M ++ [AObj.cells [.int .i64 p, .int .i64 s] ⟨false, 0⟩] = M0 at g0 s0 l0 ⊢
  have y0 : M0.ld M.length 0 = some (.int .i64 p) := g0.ld 0
  have y1 : M0.ld M.length 1 = some (.int .i64 s) := g0.ld 1
  obtain ⟨_, k⟩ := right_spec p s
  rw [bLI y0, bLI y1, bX k, bB, decide_eq_true hr, ifNT, ifDn (by omega), ifDn (by omega), bLI y0, bLI y1]
  have s1 := same_app M0 [AObj.map .i64 .i64 []]
  have l1 : (M0 ++ [AObj.map .i64 .i64 []]).length = M0.length + 1 := by simp
  have m1 : (M0 ++ [AObj.map .i64 .i64 []])[M0.length]? = some (AObj.map .i64 .i64 []) := by simp
  generalize M0 ++ [AObj.map .i64 .i64 []] = M1 at s1 l1 m1 ⊢
  have s2 := same_app M1 [AObj.cells [.int .i64 p, .int .i64 s, .int .i64 n, .map (some M0.length), .slice none 0 0] ⟨false, 0⟩]
  have g2 := cells_new M1 [.int .i64 p, .int .i64 s, .int .i64 n, .map (some M0.length), .slice none 0 0] 0
  refine ⟨_, M1.length, M0.length, rfl, ⟨g2, ⟨[], s2.at m1 (by simp), by simp, fun x => by simp [pix, mget]⟩, .nil _ _ _, ⟨by omega, by simp, by simp⟩, hr, by simp, by simp, by simp; omega⟩, ((s0.trans s1).trans s2).mono (by simp), by omega, by omega⟩

end Go.Proofs.Ytjcmnchkgnmooaa
