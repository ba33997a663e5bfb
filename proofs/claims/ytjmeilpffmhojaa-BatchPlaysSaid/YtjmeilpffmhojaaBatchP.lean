/- Claims and the document's, side by side. -/
import Derived.Test.YtjmeilpffmhojaaBatchR
set_option linter.unusedVariables false
set_option linter.unusedSimpArgs false
namespace Go.Proofs.Ytjmeilpffmhojaa
open Go Go.Ax

def stp (g : Bool) (s : CS) : Bool := g && decide (s.ph < 2)
def nxt (g : Bool) (all size cur : Int) (s : CS) : CS × Int := if g = true then stepS all size cur s else (s, cur)
def encQ (g : Bool) (all size : Int) (s : CS) : List Value := if g = true then encR all size s else encR 0 0 s

theorem encQ_length (g : Bool) (all size : Int) (s : CS) : (encQ g all size s).length = 8 := by unfold encQ; split <;> rfl

/-- A claim behind a pointer; there may be none. -/
def PtrOK (M : AMem) (g : Bool) (all size : Int) (q : Option Addr) (s : CS) : Prop :=
  (g = true → ∃ c, q = some ⟨c, 0, none⟩ ∧ Cells M c (encC all size s)) ∧ (g = false → q = none ∧ s = .init)

theorem PtrOK.same {M M' : AMem} {g : Bool} {all size : Int} {q : Option Addr} {s : CS} {S : List Nat} (h : PtrOK M g all size q s) (k : Same M M' S) (hb : ∀ x ∈ blk q, x ∉ S) : PtrOK M' g all size q s :=
  ⟨fun hg => by obtain ⟨c, rfl, hc⟩ := h.1 hg; exact ⟨c, rfl, hc.same k (hb c (by simp))⟩, h.2⟩

/-- What holds of a claim of these numbers. -/
structure COk (g : Bool) (all : Int) (T : Nat) (s : CS) : Prop where
  seen : s.ph = 1 → 0 ≤ s.seen ∧ s.seen < all
  lost : s.lost ≤ T
  z : s.ph < 2 → s.fr = 0 ∧ s.to = 0
  bad : g = false → s = .init

theorem COk.ok {g : Bool} {all : Int} {T : Nat} {s : CS} (h : COk g all T s) (hT : T < 1000000000) : s.ok all := ⟨h.seen, by have := h.lost; omega⟩
theorem COk.mono {g : Bool} {all : Int} {T : Nat} {s : CS} (h : COk g all T s) : COk g all (T + 1) s := ⟨h.seen, by have := h.lost; omega, h.z, h.bad⟩

theorem COk.next {g : Bool} {all size cur : Int} {T : Nat} {s : CS} (h : COk g all T s) (h0 : 0 ≤ cur) : COk g all (T + 1) (nxt g all size cur s).1 := by
  unfold nxt
  cases g with
  | false => rw [if_neg (by simp)]; exact h.mono
  | true =>
    rw [if_pos rfl]
    unfold stepS
    by_cases c0 : s.ph = 0
    · rw [if_pos c0]
      exact ⟨fun e => by
        by_cases cc : cur ≥ all
        · simp [cc] at e
        · exact ⟨h0, by show cur < all; omega⟩, by have := h.lost; simp; omega, fun _ => h.z (by omega), fun e => by cases e⟩
    · by_cases c1 : s.ph = 1
      · rw [if_neg c0, if_pos c1]
        by_cases e : cur = s.seen
        · rw [if_pos e]; exact ⟨fun e => by simp at e, by have := h.lost; simp; omega, fun e => by simp at e, fun e => by cases e⟩
        · rw [if_neg e]; exact ⟨fun e => by simp at e, by have := h.lost; simp; omega, fun _ => h.z (by omega), fun e => by cases e⟩
      · rw [if_neg c0, if_neg c1]; exact h.mono

theorem nxt_nonneg {g : Bool} {all size cur : Int} {T : Nat} {s : CS} (h : COk g all T s) (hf : g = true → CFit all size) (h0 : 0 ≤ cur) : 0 ≤ (nxt g all size cur s).2 := by
  unfold nxt
  cases g with
  | false => exact h0
  | true =>
    rw [if_pos rfl]
    have f := hf rfl
    have := f.s0
    unfold stepS
    by_cases c0 : s.ph = 0
    · rw [if_pos c0]; exact h0
    · by_cases c1 : s.ph = 1
      · have := h.seen c1
        rw [if_neg c0, if_pos c1]
        by_cases e : cur = s.seen
        · rw [if_pos e]; show 0 ≤ s.seen + min size (all - s.seen); omega
        · rw [if_neg e]; exact h0
      · rw [if_neg c0, if_neg c1]; exact h0

theorem ustep {g : Bool} {all size : Int} (hf : g = true → CFit all size) {T : Nat} {s : CS} (hk : COk g all T s) (hT : T < 1000) {M : AMem} {q : Option Addr} {mb ma st wi : Nat} {cur : Int} (h : PtrOK M g all size q s) (hm : IsMem M mb ma [cur] st wi)
    (hst : st ≤ T + 9) (hwi : wi ≤ T + 9) (hb : mb ∉ blk q) (ha : ma ∉ blk q) (h0 : 0 ≤ cur) :
    ∃ M' st' wi', LL.call 17 [.pointer q, pt mb] M = some (.bool (stp g s), M') ∧ PtrOK M' g all size q (nxt g all size cur s).1 ∧ IsMem M' mb ma [(nxt g all size cur s).2] st' wi' ∧ st' ≤ T + 1 + 9 ∧ wi' ≤ T + 1 + 9 ∧ Same M M' (mb :: ma :: blk q) := by
  cases g with
  | true =>
    obtain ⟨c, rfl, hc⟩ := h.1 rfl
    simp only [blk_some, List.mem_singleton] at hb ha
    obtain ⟨M', st', wi', g1, g2, g3, g4, g5, g6⟩ := bstep_spec (hf rfl) (hk.ok (by omega)) hc hm (by omega) (by omega) (Ne.symm hb) (Ne.symm ha) h0
    refine ⟨M', st', wi', ?_, ⟨fun _ => ⟨c, rfl, ?_⟩, fun e => by cases e⟩, ?_, by omega, by omega, g6.mono (by simp)⟩
    · rw [g1]; simp [stp]
    · unfold nxt; rw [if_pos rfl]; exact g2
    · unfold nxt; rw [if_pos rfl]; exact g3
  | false =>
    obtain ⟨rfl, hs⟩ := h.2 rfl
    have e : nxt false all size cur s = (s, cur) := by unfold nxt; rw [if_neg (by simp)]
    rw [L_call17, E17, e]
    simp only [under_nil, Option.bind_some, boolOf_bool, Bool.not_false, if_true]
    exact ⟨M, st, wi, by simp [stp], h, hm, by omega, by omega, .refl _ _⟩

theorem urstep {g : Bool} {all size : Int} (hf : g = true → CFit all size) {T : Nat} {s : CS} (hk : COk g all T s) (hT : T < 1000) {M : AMem} {c : Nat} {A B : List Value} {rb : Nat} {p : Option Addr} {pc st wi : Nat} {cur : Int}
    (h : Cells M c (A ++ encQ g all size s ++ B)) (hm : IsRef M rb p pc [cur] st wi) (hst : st ≤ T + 9) (hwi : wi ≤ T + 9) (hb : c ≠ rb) (ha : c ∉ blk p) (h0 : 0 ≤ cur) :
    ∃ M' st' wi', LL.call 18 [.pointer (some ⟨c, A.length, none⟩), pt rb] M = some (.bool (stp g s), M') ∧ Cells M' c (A ++ encQ g all size (nxt g all size cur s).1 ++ B) ∧
      IsRef M' rb p pc [(nxt g all size cur s).2] st' wi' ∧ st' ≤ T + 1 + 9 ∧ wi' ≤ T + 1 + 9 ∧ Same M M' (c :: rb :: blk p) := by
  cases g with
  | true =>
    unfold encQ nxt at *
    simp only [if_true] at *
    obtain ⟨M', st', wi', g1, g2, g3, g4, g5, g6⟩ := rstep_spec (hf trivial) (hk.ok (by omega)) h hm (by omega) (by omega) hb ha h0
    exact ⟨M', st', wi', by rw [g1]; simp [stp], g2, g3, by omega, by omega, g6⟩
  | false =>
    unfold encQ nxt at *
    simp only [Bool.false_eq_true, if_false] at *
    rw [L_call18, E18]
    have l1 : M.ld c (A.length + 1) = some (.int .i64 0) := mid_ld h 1 (by show 1 < 8; omega)
    simp only [l1, intOf_int, Option.bind_some, beq_self_eq_true, if_true]
    exact ⟨M, st, wi, by simp [stp], h, hm, by omega, by omega, .refl _ _⟩

theorem udone {g : Bool} {all size : Int} {s : CS} {M : AMem} {q : Option Addr} (h : PtrOK M g all size q s) : LL.call 19 [.pointer q] M = some (.bool (decide (1 < s.ph)), M) := by
  cases g with
  | true => obtain ⟨c, rfl, hc⟩ := h.1 rfl; exact done_spec hc
  | false => obtain ⟨rfl, rfl⟩ := h.2 rfl; exact done_nil M

theorem ulost {g : Bool} {all size : Int} {s : CS} {M : AMem} {q : Option Addr} (h : PtrOK M g all size q s) : LL.call 20 [.pointer q] M = some (.int .i64 s.lost, M) := by
  cases g with
  | true => obtain ⟨c, rfl, hc⟩ := h.1 rfl; exact lost_spec hc
  | false => obtain ⟨rfl, rfl⟩ := h.2 rfl; rw [L_call20, E20]; rfl

theorem urange {g : Bool} {all size : Int} {T : Nat} {s : CS} {M : AMem} {q : Option Addr} (h : PtrOK M g all size q s) (hk : COk g all T s) :
    LL.call 21 [.pointer q] M = some (.tuple #[.int .i64 s.fr, .int .i64 s.to, .bool (decide (s.fr < s.to))], M) := by
  cases g with
  | true =>
    obtain ⟨c, rfl, hc⟩ := h.1 rfl
    rw [range_spec hc]
    by_cases c1 : 1 < s.ph
    · rw [if_pos c1]
    · rw [if_neg c1, (hk.z (by omega)).1, (hk.z (by omega)).2]; rfl
  | false =>
    obtain ⟨rfl, rfl⟩ := h.2 rfl
    rw [L_call21, E21]
    simp only [done_nil, Option.bind_some, boolOf_bool, Bool.not_false, if_true]
    rfl

/-! ### the world -/

/-- Blocks that are told apart. -/
structure BSep (N0 mb ma rb : Nat) (p : Option Addr) (a b : Nat) (qs : List (Option Addr)) : Prop where
  nd : (mb :: ma :: rb :: a :: b :: blk p).Nodup
  qn : ∀ q ∈ qs, ∀ x ∈ blk q, x ∉ (mb :: ma :: rb :: a :: b :: blk p)
  qd : ∀ (i j : Nat) (q r : Option Addr), qs[i]? = some q → qs[j]? = some r → i ≠ j → ∀ x ∈ blk q, x ∉ blk r
  ge : ∀ x ∈ (mb :: ma :: rb :: a :: b :: blk p), N0 ≤ x
  qg : ∀ q ∈ qs, ∀ x ∈ blk q, N0 ≤ x

structure BInv (g : Bool) (all size : Int) (M : AMem) (mb ma rb : Nat) (p : Option Addr) (pc a b : Nat) (qs : List (Option Addr)) (ss : List CS) (cur : Int) (T : Nat) : Prop where
  mem : ∃ st wi, IsMem M mb ma [cur] st wi ∧ st ≤ T + 9 ∧ wi ≤ T + 9
  ref : ∃ st wi, IsRef M rb p pc [cur] st wi ∧ st ≤ T + 9 ∧ wi ≤ T + 9
  pa : Cells M a (qs.map .pointer)
  pb : Cells M b (ss.flatMap (encQ g all size))
  len : ss.length = qs.length
  el : ∀ (i : Nat) (q : Option Addr) (s : CS), qs[i]? = some q → ss[i]? = some s → PtrOK M g all size q s ∧ COk g all T s
  cur0 : 0 ≤ cur

/-- A step of one claim, and of the document's. -/
theorem bboth {g : Bool} {all size : Int} (hf : g = true → CFit all size) {N0 : Nat} {M : AMem} {mb ma rb : Nat} {p : Option Addr} {pc a b : Nat} {qs : List (Option Addr)} {ss : List CS} {cur : Int} {T : Nat} (hs : BSep N0 mb ma rb p a b qs) (hi : BInv g all size M mb ma rb p pc a b qs ss cur T)
    (hT : T < 1000) {k : Nat} (hk : k < qs.length) :
    ∃ q s M1 M2, qs[k]? = some q ∧ LL.call 17 [.pointer q, pt mb] M = some (.bool (stp g s), M1) ∧ Cells M1 b (ss.flatMap (encQ g all size)) ∧
      LL.call 18 [.pointer (some ⟨b, k * 8, none⟩), pt rb] M1 = some (.bool (stp g s), M2) ∧
      BInv g all size M2 mb ma rb p pc a b qs (ss.set k (nxt g all size cur s).1) (nxt g all size cur s).2 (T + 1) ∧ Same M M2 (mb :: ma :: blk q ++ (b :: rb :: blk p)) := by
  have hk2 : k < ss.length := by rw [hi.len]; exact hk
  obtain ⟨q, hq⟩ : ∃ q, qs[k]? = some q := ⟨_, List.getElem?_eq_getElem hk⟩
  obtain ⟨s, hss⟩ : ∃ s, ss[k]? = some s := ⟨_, List.getElem?_eq_getElem hk2⟩
  have hqm : q ∈ qs := List.mem_of_getElem? hq
  obtain ⟨e1, e2⟩ := hi.el k q s hq hss
  obtain ⟨st, wi, m1, m2, m3⟩ := hi.mem
  obtain ⟨st2, wi2, r1, r2, r3⟩ := hi.ref
  have nq := hs.qn q hqm
  have nd := hs.nd
  simp only [List.nodup_cons, List.mem_cons, not_or] at nd
  obtain ⟨⟨d1, d2, d3, d4, d5⟩, ⟨d6, d7, d8, d9⟩, ⟨d10, d11, d12⟩, ⟨d13, d14⟩, d15, _⟩ := nd
  have nb : ∀ y, y ∈ (mb :: ma :: rb :: a :: b :: blk p) → y ∉ blk q := fun y hy hx => nq y hx hy
  have nmb := nb mb (by simp)
  have nma := nb ma (by simp)
  have nrb := nb rb (by simp)
  have na := nb a (by simp)
  have nbb := nb b (by simp)
  have np : ∀ x ∈ blk p, x ∉ blk q := fun x hx => nb x (by simp [hx])
  obtain ⟨M1, st', wi', g1, g2, g3, g4, g5, g6⟩ := ustep hf e2 hT e1 m1 m2 m3 nmb nma hi.cur0
  have b1 := hi.pb.same g6 (by simp [nbb, Ne.symm d4, Ne.symm d8])
  have b2 : Cells M1 b ((ss.take k).flatMap (encQ g all size) ++ encQ g all size s ++ (ss.drop (k + 1)).flatMap (encQ g all size)) := by rw [← flat_split _ hss]; exact b1
  have hl : ((ss.take k).flatMap (encQ g all size)).length = k * 8 := by
    rw [flatMap_length (k := 8) (encQ_length g all size), List.length_take, Nat.min_eq_left (by omega)]
  have f1 := r1.same g6 (by simp [nrb, Ne.symm d2, Ne.symm d6]) (fun x hx => by
    simp only [List.mem_cons, not_or]
    exact ⟨fun e => d5 (e ▸ hx), fun e => d9 (e ▸ hx), np x hx⟩)
  obtain ⟨M2, st2', wi2', k1, k2, k3, k4, k5, k6⟩ := urstep hf e2 hT b2 f1 r2 r3 (Ne.symm d11) d15 hi.cur0
  rw [hl] at k1
  have hall := g6.trans k6
  have nk : ∀ x ∈ blk q, x ∉ b :: rb :: blk p := fun x hx => by
    have := nq x hx
    simp only [List.mem_cons, not_or] at this ⊢
    exact ⟨this.2.2.2.2.1, this.2.2.1, this.2.2.2.2.2⟩
  refine ⟨q, s, M1, M2, hq, g1, b1, k1, ⟨⟨st', wi', g3.same k6 (by simp; exact ⟨d4, d2, d5⟩) (by simp; exact ⟨d8, d6, d9⟩), g4, g5⟩, ⟨st2', wi2', k3, k4, k5⟩, ?_, ?_, by simp [hi.len], ?_, nxt_nonneg e2 hf hi.cur0⟩, hall⟩
  · exact (hi.pa.same g6 (by simp; exact ⟨Ne.symm d3, Ne.symm d7, na⟩)).same k6 (by simp; exact ⟨d13, Ne.symm d10, d14⟩)
  · rw [flat_set _ _ hk2]; exact k2
  · intro i q' s' hq' hs'
    by_cases hik : i = k
    · subst hik
      rw [hq] at hq'; cases hq'
      rw [List.getElem?_set_self hk2] at hs'; cases hs'
      exact ⟨g2.same k6 nk, e2.next hi.cur0⟩
    · rw [List.getElem?_set_ne (Ne.symm hik)] at hs'
      obtain ⟨x1, x2⟩ := hi.el i q' s' hq' hs'
      refine ⟨(x1.same g6 fun x hx => ?_).same k6 fun x hx => ?_, x2.mono⟩
      · have := hs.qn q' (List.mem_of_getElem? hq') x hx
        have h3 := hs.qd i k q' q hq' hq hik x hx
        simp only [List.mem_cons, not_or] at this ⊢
        exact ⟨this.1, this.2.1, h3⟩
      · have := hs.qn q' (List.mem_of_getElem? hq') x hx
        simp only [List.mem_cons, not_or] at this ⊢
        exact ⟨this.2.2.2.2.1, this.2.2.1, this.2.2.2.2.2⟩

end Go.Proofs.Ytjmeilpffmhojaa
