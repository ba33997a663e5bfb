/- FlushPlays: the order; the end. -/
import Derived.Test.YtpnknolehckfhaaFlushX
set_option linter.unusedVariables false
set_option linter.unusedSimpArgs false
namespace Go.Proofs.Ytpnknolehckfhaa
open Go Go.Ax

structure PI (N n : Nat) (M : AMem) (mb ma : Nat) (L : List Int) (st wi : Nat) (o : Option Addr) (l : List Fl) (T : Nat) (mr : Nat) (p : Option Addr) (pc : Nat) (q : Option Addr) (qc : Nat) (rs : List Rf) : Prop where
  li : LI N n M mb ma L st wi o l T
  ref : IsRef M mr p pc L st wi
  sl : Slc M 6 q rs.length qc (rs.flatMap encR)
  ad : ∀ x ∈ rs, Rd M x.z (x.s.adds.flatMap encA)
  eq : rs.map Rf.s = l.map Fl.s
  al : ∀ x ∈ rs, x.s.adds.length ≤ 1000000
  dis : ∀ b ∈ mr :: (blk p ++ blk q) ++ rs.map Rf.z, N ≤ b ∧ b ≠ mb ∧ b ≠ ma ∧ b ∉ blk o ∧ ∀ x ∈ l, b ∉ x.bl
  qd : ∀ b ∈ blk q, b ≠ mr ∧ b ∉ blk p
  zd : ∀ x ∈ rs, x.z ≠ mr ∧ x.z ∉ blk p ∧ x.z ∉ blk q

theorem LI.same {N n : Nat} {M M' : AMem} {mb ma : Nat} {L : List Int} {st wi : Nat} {o : Option Addr} {l : List Fl} {T : Nat} (h : LI N n M mb ma L st wi o l T) {S : List Nat} (k : Same M M' S) (h1 : mb ∉ S ∧ ma ∉ S) (h2 : ∀ x ∈ l, ∀ b ∈ x.bl, b ∉ S) (h3 : ∀ b ∈ blk o, b ∉ S) : LI N n M' mb ma L st wi o l T :=
  ⟨h.sys.same k h1 h2 h3, h.good, h.len, h.st, h.wi, h.lo⟩

theorem PI.step {N n : Nat} {M : AMem} {mb ma : Nat} {L : List Int} {st wi : Nat} {o : Option Addr} {l : List Fl} {T : Nat} {mr : Nat} {p : Option Addr} {pc : Nat} {q : Option Addr} {qc : Nat} {rs : List Rf} (h : PI N n M mb ma L st wi o l T mr p pc q qc rs) (hT : T < 100000000) {k : Nat} {x : Fl} (hx : l[k]? = some x) {y : Rf} (hy : rs[k]? = some y) :
    ∃ M1 M2 c' rb, q = some ⟨rb, 0, none⟩ ∧ LL.call 18 [pt x.f, pt mb] M = some (.bool (!fOver L x.s), M1) ∧ LL.call 26 [.pointer (some ⟨rb, k * 6, none⟩), pt mr] M1 = some (.bool (!fOver L x.s), M2) ∧
      PI N n M2 mb ma (fL L x.s) (st + fT L x.s) (wi + fW L x.s) o (l.set k (x.wi (fS L x.s))) (T + 1) mr p pc q qc (rs.set k ⟨y.z, c', fS L x.s⟩) ∧ Same M M2 (x.f :: mb :: ma :: mr :: (blk p ++ blk q)) := by
  have hxl := List.mem_of_getElem? hx
  have hyl := List.mem_of_getElem? hy
  have hk := (List.getElem?_eq_some_iff.1 hx).1
  have hk' := (List.getElem?_eq_some_iff.1 hy).1
  have hys : y.s = x.s := by
    have := congrArg (fun z => z[k]?) h.eq
    simp only [List.getElem?_map, hx, hy, Option.map_some, Option.some.injEq] at this
    exact this
  obtain ⟨M1, k1, k2, k3⟩ := h.li.step hT hx
  obtain ⟨rb, rfl, hrb⟩ := h.sl.pos (by omega)
  have hout : ∀ b ∈ mr :: (blk p ++ blk (some ⟨rb, 0, none⟩)) ++ rs.map Rf.z, b ∉ [x.f, mb, ma] := fun b hb => by
    obtain ⟨_, q1, q2, q3, q4⟩ := h.dis b hb
    simp only [List.mem_cons, List.not_mem_nil, or_false, not_or]
    exact ⟨fun e => q4 x hxl (by simp [Fl.bl, ← e]), q1, q2⟩
  have href := h.ref.same k3 (hout _ (by simp)) (fun b hb => hout b (by simp [hb]))
  have hrb1 := hrb.same k3 (hout rb (by simp))
  have hz1 := (h.ad y hyl).same k3 (hout y.z (List.mem_append_right _ (List.mem_map_of_mem hyl)))
  have hg : Good L.length x.s := by rw [h.li.len]; exact h.li.good x hxl
  have hnx := hg.nx
  have hst := h.li.st
  have hwi := h.li.wi
  have hlo := h.li.lo x hxl
  have qd := h.qd rb (by simp)
  obtain ⟨zd1, zd2, zd3⟩ := h.zd y hyl
  obtain ⟨M2, c', e1, e2, e3, e4⟩ := rf_step hy hrb1 hz1 (by rw [hys]; exact hnx) (h.al y hyl) href (by omega) (by omega) (by rw [hys]; omega) ⟨qd.1, qd.2⟩ ⟨by simpa using zd3, zd1, zd2⟩
  rw [hys] at e1 e2 e3
  have hin : ∀ b ∈ rb :: mr :: blk p, b ∈ mr :: (blk p ++ blk (some ⟨rb, 0, none⟩)) ++ rs.map Rf.z := fun b hb => by
    simp only [List.mem_cons] at hb
    rcases hb with rfl | rfl | hb
    · simp
    · simp
    · simp [hb]
  have hzset : (rs.set k (⟨y.z, c', fS L x.s⟩ : Rf)).map Rf.z = rs.map Rf.z := by
    rw [List.map_set]
    refine List.ext_getElem? fun i => ?_
    by_cases e : k = i
    · subst e
      rw [List.getElem?_set_self (by simpa using hk'), List.getElem?_map, hy]
      rfl
    · rw [List.getElem?_set_ne e]
  have hmem : ∀ z ∈ rs.set k (⟨y.z, c', fS L x.s⟩ : Rf), ∃ z' ∈ rs, z'.z = z.z ∧ z'.s.adds = z.s.adds := fun z hz => by
    obtain ⟨i, hi⟩ := List.getElem?_of_mem hz
    by_cases e : k = i
    · subst e
      rw [List.getElem?_set_self hk'] at hi
      cases hi
      exact ⟨y, hyl, rfl, by simp only [fS_adds, hys]⟩
    · rw [List.getElem?_set_ne e] at hi
      exact ⟨z, List.mem_of_getElem? hi, rfl, rfl⟩
  refine ⟨M1, M2, c', rb, rfl, k1, e1, ⟨k2.same e4 ⟨fun hb => ?_, fun hb => ?_⟩ (fun z hz b hb hbs => ?_) (fun b hb hbs => ?_), e3, ?_, fun z hz => ?_, ?_, fun z hz => ?_, fun b hb => ?_, h.qd, fun z hz => ?_⟩, ?_⟩
  · exact (h.dis mb (hin mb hb)).2.1 rfl
  · exact (h.dis ma (hin ma hb)).2.2.1 rfl
  · obtain ⟨z', hz', e⟩ := mem_set_wi hx _ hz
    exact (h.dis b (hin b hbs)).2.2.2.2 z' hz' (by rw [e]; exact hb)
  · exact (h.dis b (hin b hbs)).2.2.2.1 hb
  · have hc : qc = 6 ∨ True := .inr trivial
    refine ⟨by rw [flatMap_length encR_length], .inr ⟨rb, rfl, ?_, e2⟩⟩
    rcases h.sl.2 with ⟨e, _⟩ | ⟨a, _, e, _⟩
    · cases e
    · exact e
  · obtain ⟨z', hz', q1, q2⟩ := hmem z hz
    rw [← q1, ← q2]
    obtain ⟨d1, d2, d3⟩ := h.zd z' hz'
    refine ((h.ad z' hz').same k3 (hout _ (List.mem_append_right _ (List.mem_map_of_mem hz')))).same e4 ?_
    simp only [List.mem_cons, not_or]
    exact ⟨by simpa using d3, d1, d2⟩
  · rw [List.map_set, List.map_set, h.eq]; rfl
  · obtain ⟨z', hz', q1, q2⟩ := hmem z hz
    rw [← q2]; exact h.al z' hz'
  · rw [hzset] at hb
    obtain ⟨q0, q1, q2, q3, q4⟩ := h.dis b hb
    refine ⟨q0, q1, q2, q3, fun z hz => ?_⟩
    obtain ⟨z', hz', e⟩ := mem_set_wi hx _ hz
    rw [← e]; exact q4 z' hz'
  · obtain ⟨z', hz', q1, q2⟩ := hmem z hz
    rw [← q1]; exact h.zd z' hz'
  · refine (k3.trans e4).mono fun b hb => ?_
    simp only [List.mem_append, List.mem_cons, List.not_mem_nil, or_false, blk_some] at hb ⊢
    rcases hb with (rfl | rfl | rfl) | rfl | rfl | hb <;> simp_all

end Go.Proofs.Ytpnknolehckfhaa
