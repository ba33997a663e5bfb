/- The steps of PeekWhole: what holds on the way. -/
import Derived.Test.YtpnknolehckfhaaWhlW
import Derived.Test.YtpnknolehckfhaaAwakeP
set_option linter.unusedVariables false
set_option linter.unusedSimpArgs false
namespace Go.Proofs.Ytpnknolehckfhaa
open Go Go.Ax

theorem LI.look {N n : Nat} {M M' : AMem} {mb ma : Nat} {L : List Int} {st st' wi : Nat} {o : Option Addr} {l : List Fl} {T T' : Nat} (h : LI N n M mb ma L st wi o l T) {S : List Nat} (k : Same M M' S) (hS : ∀ b ∈ S, b ∉ blk o ∧ ∀ x ∈ l, b ∉ x.bl) (hm : IsMem M' mb ma L st' wi) (hT : T ≤ T') (hst : st' ≤ T') : LI N n M' mb ma L st' wi o l T' :=
  ⟨⟨hm, h.sys.fl.same k (fun b hb x hx => (hS b hb).2 x hx), h.sys.ptr.same k (fun b hb hbs => (hS b hbs).1 hb), h.sys.am, h.sys.ao, h.sys.lo⟩, h.good, h.len, hst, Nat.le_trans h.wi hT, fun x hx => Nat.le_trans (h.lo x hx) hT⟩

structure WS (N P S : Nat) (p s : Int) (js : List Jb) (M : AMem) (mb ma : Nat) (L : List Int) (st wi : Nat) (o : Option Addr) (l : List Fl) (T b be bb bf : Nat) (x : PK) (wq : Option Addr) (looked met : Bool) (lm : List Fl) (mu : Int) : Prop where
  li : LI N (1 + 2 * S + 3 * P) M mb ma L st wi o l T
  oi : OInv (1 + 2 * S + 3 * P) L l
  pk : IsPk M b be bb bf x
  dj : ∀ z ∈ [b, be, bb, bf], N ≤ z ∧ z ≠ mb ∧ z ≠ ma ∧ z ∉ blk o ∧ z ∉ blk wq ∧ ∀ y ∈ l, z ∉ y.bl
  wr : RdI M .i64 wq (kjf p s 0 js).length (pls (kjf p s 0 js))
  wd : ∀ z ∈ blk wq, z ≠ mb ∧ z ≠ ma ∧ ∀ y ∈ l, z ∉ y.bl
  wk : Wk p s (kjf p s 0 js) l
  xp : x.p = P ∧ x.s = S
  nl : looked = false → x.i = 0 ∧ x.over = false
  mu : looked = true → mu = ((msk p s done? js lm : Nat) : Int) ∧ Le lm l
  ph : x.over = false → x.en = 0 ∧ (looked = true → ∃ l1 l2, Ph P S lm l1 l2 l x.arr x.i met)
  fi : x.over = true → (x.en = 12 ∧ x.tries = x.most) ∨ (x.en = 0 ∧ met = true ∧ Whl P S lm l (pkFilm x))

theorem rdi_same' {M M' : AMem} {S : List Nat} {k : IntKind} {p : Option Addr} {n : Nat} {l : List Int} (h : RdI M k p n l) (hs : Same M M' S) (hb : 0 < n → ∀ x ∈ blk p, x ∉ S) : RdI M' k p n l :=
  ⟨h.1, fun hn => let ⟨a, e, hc⟩ := h.2 hn; ⟨a, e, hc.same hs (hb hn a (by rw [e]; simp))⟩⟩

/-- Nothing of it changes. -/
theorem WS.same {N P S : Nat} {p s : Int} {js : List Jb} {M M' : AMem} {mb ma : Nat} {L : List Int} {st wi : Nat} {o : Option Addr} {l : List Fl} {T b be bb bf : Nat} {x : PK} {wq : Option Addr} {looked met : Bool} {lm : List Fl} {mu : Int} (h : WS N P S p s js M mb ma L st wi o l T b be bb bf x wq looked met lm mu) (k : Same M M' []) : WS N P S p s js M' mb ma L st wi o l T b be bb bf x wq looked met lm mu :=
  ⟨h.li.look k (by simp) (h.li.sys.mem.same k (by simp) (by simp)) (Nat.le_refl _) h.li.st, h.oi, h.pk.same k (by simp) (by simp) (by simp) (by simp), h.dj, rdi_same' h.wr k (by simp), h.wd, h.wk, h.xp, h.nl, h.mu, h.ph, h.fi⟩

/-- The look begins. -/
theorem WS.begin {N P S : Nat} {p s : Int} {js : List Jb} {M : AMem} {mb ma : Nat} {L : List Int} {st wi : Nat} {o : Option Addr} {l : List Fl} {T b be bb bf : Nat} {x : PK} {wq : Option Addr} {met : Bool} {lm : List Fl} {mu : Int} (h : WS N P S p s js M mb ma L st wi o l T b be bb bf x wq false met lm mu) (hS : 0 < S) :
    WS N P S p s js M mb ma L st wi o l T b be bb bf x wq true met l ((msk p s done? js l : Nat) : Int) :=
  ⟨h.li, h.oi, h.pk, h.dj, h.wr, h.wd, h.wk, h.xp, fun h => by simp at h, fun _ => ⟨rfl, .refl _⟩, fun ho => ⟨(h.ph ho).1, fun _ => ⟨l, l, by rw [(h.nl rfl).1]; exact .zero (.refl _) _ _ hS⟩⟩, fun ho => by rw [(h.nl rfl).2] at ho; simp at ho⟩

/-- A flush's step. -/
theorem WS.flush {N P S : Nat} {p s : Int} {js : List Jb} {M : AMem} {mb ma : Nat} {L : List Int} {st wi : Nat} {o : Option Addr} {l : List Fl} {T b be bb bf : Nat} {x : PK} {wq : Option Addr} {looked met : Bool} {lm : List Fl} {mu : Int} (h : WS N P S p s js M mb ma L st wi o l T b be bb bf x wq looked met lm mu) (hT : T < 100000) (ho : x.over = false) {k : Nat} {y : Fl} (hy : l[k]? = some y) :
    ∃ M' L' st' wi' l', LL.call 18 [pt y.f, pt mb] M = some (.bool (!fOver L y.s), M') ∧ l'.length = l.length ∧ Same M M' [y.f, mb, ma] ∧ (∀ met', (met = true → met' = true) → WS N P S p s js M' mb ma L' st' wi' o l' (T + 1) b be bb bf x wq looked met' lm mu) := by
  obtain ⟨M', k1, k2, k3⟩ := h.li.step (by omega) hy
  have hym := List.mem_of_getElem? hy
  have hle : Le l (l.set k (y.wi (fS L y.s))) := .step hy
  have hS : ∀ z ∈ [b, be, bb, bf], z ∉ [y.f, mb, ma] := fun z hz => by
    obtain ⟨q1, q2, q3, q4, q5, q6⟩ := h.dj z hz
    simp only [List.mem_cons, List.not_mem_nil, or_false, not_or]
    exact ⟨fun e => q6 y hym (by simp [Fl.bl, e]), q2, q3⟩
  have hbl : ∀ z ∈ l.set k (y.wi (fS L y.s)), ∃ z' ∈ l, z'.bl = z.bl := fun z hz => mem_set_wi hy _ hz
  refine ⟨M', _, _, _, _, k1, by simp, k3, fun met' hmet => ⟨k2, h.oi.step hy (h.li.good y hym), h.pk.same k3 (hS b (by simp)) (hS be (by simp)) (hS bb (by simp)) (hS bf (by simp)), fun z hz => ?_, rdi_same' h.wr k3 (fun _ z hz hb => ?_), fun z hz => ?_, ?_, h.xp, h.nl, fun hl => ⟨(h.mu hl).1, (h.mu hl).2.trans hle⟩, fun ho => ⟨(h.ph ho).1, fun hl => ?_⟩, fun ho' => by rw [ho] at ho'; simp at ho'⟩⟩
  · obtain ⟨q1, q2, q3, q4, q5, q6⟩ := h.dj z hz
    refine ⟨q1, q2, q3, q4, q5, fun w hw => ?_⟩
    obtain ⟨w', hw', e⟩ := hbl w hw
    rw [← e]; exact q6 w' hw'
  · obtain ⟨q1, q2, q3⟩ := h.wd z hz
    simp only [List.mem_cons, List.not_mem_nil, or_false] at hb
    rcases hb with rfl | rfl | rfl
    · exact q3 y hym (by simp [Fl.bl])
    · exact q1 rfl
    · exact q2 rfl
  · obtain ⟨q1, q2, q3⟩ := h.wd z hz
    refine ⟨q1, q2, fun w hw => ?_⟩
    obtain ⟨w', hw', e⟩ := hbl w hw
    rw [← e]; exact q3 w' hw'
  · exact h.wk.fwd hle fun z hz => (k2.good z hz).nx
  · obtain ⟨l1, l2, hp⟩ := (h.ph ho).2 hl
    exact ⟨l1, l2, hp.go hle hmet⟩

/-- A step of the look. -/
theorem WS.look {N P S : Nat} {p s : Int} {js : List Jb} {M : AMem} {mb ma : Nat} {L : List Int} {st wi : Nat} {o : Option Addr} {l : List Fl} {T b be bb bf : Nat} {x : PK} {wq : Option Addr} {met : Bool} {lm : List Fl} {mu : Int} (h : WS N P S p s js M mb ma L st wi o l T b be bb bf x wq true met lm mu) (hT : T < 100000) (ho : x.over = false) (hS : s = (S : Int)) (hS0 : 0 < S) (hl : l.length ≤ 6) :
    ∃ M' x', LL.call 17 [pt b, pt mb] M = some (.bool true, M') ∧ x'.most = x.most ∧ Same M M' [b, be, bb, bf, mb] ∧ (∀ met', (met = true → met' = true) → (Qt l → met' = true) → WS N P S p s js M' mb ma L (st + 1) wi o l (T + 1) b be bb bf x' wq true met' lm mu) := by
  have hst := h.li.st
  have hLl := h.li.len
  obtain ⟨hp1, hp2⟩ := h.xp
  have hov : pkOver L x = false := by unfold pkOver; rw [ho, decide_eq_false (by rw [hp1, hp2]; omega)]; rfl
  obtain ⟨M', k1, k2, k3, k4⟩ := pk_step h.pk h.li.sys.mem (by omega) (fun z hz => by have := h.dj z hz; exact ⟨this.2.1, this.2.2.1⟩)
  have hTt : pkT L x = 1 := by unfold pkT; rw [hov]; rfl
  rw [hTt] at k3
  rw [hov] at k1
  have hix := h.pk.ix ho
  have hlen := h.pk.len
  have htr := h.pk.tr
  have hall : x.all = 2 * S + 3 * P := by unfold PK.all; rw [hp1, hp2]
  have hD : ∀ z ∈ [b, be, bb, bf, mb], z ∉ blk o ∧ ∀ y ∈ l, z ∉ y.bl := fun z hz => by
    have hz' : z ∈ [b, be, bb, bf] ∨ z = mb := by simpa [or_assoc] using hz
    rcases hz' with hz' | rfl
    · obtain ⟨q1, q2, q3, q4, q5, q6⟩ := h.dj z hz'; exact ⟨q4, q6⟩
    · exact ⟨fun hb => (h.li.sys.ao z hb).1 rfl, fun y hy => (h.li.sys.am y hy).1⟩
  have hwS : ∀ z ∈ blk wq, z ∉ [b, be, bb, bf, mb] := fun z hz hb => by
    have hz' : z ∈ [b, be, bb, bf] ∨ z = mb := by simpa [or_assoc] using hb
    rcases hz' with hz' | rfl
    · exact (h.dj z hz').2.2.2.2.1 hz
    · exact (h.wd z hz).1 rfl
  obtain ⟨l1, l2, hph⟩ := (h.ph ho).2 rfl
  have hen := (h.ph ho).1
  obtain ⟨hmu, hlm⟩ := h.mu rfl
  have build : ∀ (x' : PK) (met' : Bool), pkS L x = x' → x'.p = P ∧ x'.s = S → (x'.over = false → x'.en = 0 ∧ ∃ l1 l2, Ph P S lm l1 l2 l x'.arr x'.i met') → (x'.over = true → (x'.en = 12 ∧ x'.tries = x'.most) ∨ (x'.en = 0 ∧ met' = true ∧ Whl P S lm l (pkFilm x'))) →
      WS N P S p s js M' mb ma L (st + 1) wi o l (T + 1) b be bb bf x' wq true met' lm mu := fun x' met' e c1 c2 c3 => by
    rw [e] at k2
    exact ⟨h.li.look k4 hD k3 (by omega) (by omega), h.oi, k2, h.dj, rdi_same' h.wr k4 (fun _ z hz => hwS z hz), h.wd, h.wk, c1, fun hf => by simp at hf, fun _ => ⟨hmu, hlm⟩, fun ho' => ⟨(c2 ho').1, fun _ => (c2 ho').2⟩, c3⟩
  have rd : ∀ met', (met = true → met' = true) → (Qt l → met' = true) → ∃ l1' l2', Ph P S lm l1' l2' l (pkArr L x) (x.i + 1) met' := fun met' m1 m2 => by
    have := hph.read (met' := met') (p := p) (n := 1 + 2 * S + 3 * P) hS rfl h.wk.jl h.oi hl (by omega) (by omega) m1 m2
    unfold pkArr
    rw [hp1, hp2]
    exact this
  have hal : (pkArr L x).length = 2 * S + 3 * P := by unfold pkArr; rw [List.length_set]; omega
  have hx : pkS L x = if x.i + 1 < x.all then { x with arr := pkArr L x, i := x.i + 1 }
      else if (pkArr L x).take x.s = (pkArr L x).drop (x.s + 3 * x.p) then { x with arr := pkArr L x, i := x.all, tries := x.tries + 1, over := true }
      else if x.tries + 1 < x.most then { x with arr := pkArr L x, i := 0, tries := x.tries + 1 }
      else { x with arr := pkArr L x, i := x.all, tries := x.tries + 1, over := true, en := 12 } := by
    unfold pkS; rw [if_neg (by rw [hov]; simp)]
  by_cases c1 : x.i + 1 < x.all
  · rw [if_pos c1] at hx
    refine ⟨M', _, k1, ?_, k4, fun met' m1 m2 => build _ met' hx ⟨hp1, hp2⟩ (fun _ => ⟨hen, rd met' m1 m2⟩) (fun h => ?_)⟩
    · rfl
    · have h' : x.over = true := h
      rw [ho] at h'; simp at h'
  · rw [if_neg c1] at hx
    have hi1 : x.i + 1 = 2 * S + 3 * P := by omega
    by_cases c2 : (pkArr L x).take x.s = (pkArr L x).drop (x.s + 3 * x.p)
    · rw [if_pos c2] at hx
      refine ⟨M', _, k1, ?_, k4, fun met' m1 m2 => build _ met' hx ⟨hp1, hp2⟩ (fun h => by simp at h) (fun _ => .inr ?_)⟩
      · rfl
      · obtain ⟨l1', l2', hr⟩ := rd met' m1 m2
        rw [hi1] at hr
        rw [hp1, hp2] at c2
        have := hr.fin hS h.wk.jl hal c2
        refine ⟨hen, this.1, ?_⟩
        have e : pkFilm { x with arr := pkArr L x, i := x.all, tries := x.tries + 1, over := true } = ((pkArr L x).drop S).take (3 * P) := by
          show ((pkArr L x).drop x.s).take (3 * x.p) = _
          rw [hp1, hp2]
        rw [e]
        exact this.2
    · rw [if_neg c2] at hx
      by_cases c3 : x.tries + 1 < x.most
      · rw [if_pos c3] at hx
        refine ⟨M', _, k1, ?_, k4, fun met' m1 m2 => build _ met' hx ⟨hp1, hp2⟩ (fun _ => ⟨hen, l, l, .zero hlm _ _ hS0⟩) (fun h => ?_)⟩
        · rfl
        · have h' : x.over = true := h
          rw [ho] at h'; simp at h'
      · rw [if_neg c3] at hx
        refine ⟨M', _, k1, ?_, k4, fun met' m1 m2 => build _ met' hx ⟨hp1, hp2⟩ (fun h => by simp at h) (fun _ => .inl ⟨rfl, ?_⟩)⟩
        · rfl
        · show x.tries + 1 = x.most
          have := htr.2 ho
          omega

end Go.Proofs.Ytpnknolehckfhaa
