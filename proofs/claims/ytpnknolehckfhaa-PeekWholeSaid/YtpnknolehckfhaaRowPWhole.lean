/- PeekWhole: a picture is what the film was at a moment at which no flush was under way. -/
import Derived.Test.YtpnknolehckfhaaRows
import Derived.Test.YtpnknolehckfhaaWhlL
import Derived.Test.YtpnknolehckfhaaPeekArg
set_option linter.unusedVariables false
set_option linter.unusedSimpArgs false
namespace Go.Proofs.Ytpnknolehckfhaa
open Go Go.Ax
open Go.ChangeShapes Go.WideShapes Go.ChangeAt Go.RowKit

/-- The end. -/
theorem pwhole_end {N P S : Nat} {p s : Int} {js : List Jb} {M : AMem} {mb ma : Nat} {L : List Int} {st wi : Nat} {o : Option Addr} {oc : Nat} {l : List Fl} {T b be bb bf : Nat} {x : PK} {wq : Option Addr} {wc : Nat} {looked met : Bool} {lm : List Fl} {mu x1 : Int} {x4 : Nat} {q : Option Addr} {most : Nat} (h : WS N P S p s js M mb ma L st wi o l T b be bb bf x wq looked met lm mu)
    (hS : s = (S : Int)) (hP : p = (P : Int)) (hP1 : P ≤ 10) (hjl : js.length ≤ 6) (hes : ∀ j ∈ js, j.es.length ≤ 24) (hj : Jobs N M q js) (hNM : N ≤ M.length) (h4 : Rd M x4 [.int .i64 p, .int .i64 s]) (hmost : IntKind.wrap .i64 (1 + (Int.tmod (IntKind.wrap .i64 x1) 20)) = (most : Int)) (hxm : x.most = most) :
    ∃ M', P3_84 LL x1 q js.length 0 x4 (some ⟨b, 0, none⟩) o l.length oc wq (kjf p s 0 js).length wc mu met M = some (.bool true, M') := by
  obtain ⟨_, aw⟩ := awake34
  rw [P3_84_eq, bX (pdone_spec h.pk), bB]
  cases ho : x.over with
  | false =>
    rw [show (!false) = true from rfl, ifT, bX aw, bB]
    exact ⟨_, rfl⟩
  | true =>
    obtain ⟨M1, fp, fc, f1, f2, f3, f4⟩ := pfilm_spec h.pk
    rw [show (!true) = false from rfl, ifF, bX f1, bT2, bG0, bS, bG1, bI, if_pos ho]
    have hlk : looked = true := by
      cases hl : looked with
      | true => rfl
      | false => rw [(h.nl hl).2] at ho; simp at ho
    obtain ⟨hmu, hlm⟩ := h.mu hlk
    rcases h.fi ho with ⟨e1, e2⟩ | ⟨e1, e2, hW⟩
    · have htr := ptries_spec (h.pk.same f3 (by simp) (by simp) (by simp) (by simp))
      rw [e1, show ((12 : Int) == 12) = true from rfl, ifT, if_neg (show ¬ (x.over = true ∧ (12 : Int) = 0) by simp), show ((Int.ofNat 0) == 0) = true from rfl, ifT, bX htr, bI, hmost, e2, hxm, show ((most : Int) == (most : Int)) = true by simp, ifT, bX aw, bB]
      exact ⟨_, rfl⟩
    · have hw1 := h.same f3
      have hjk := h.wk.len
      have hsum := sum_spec (p := p) (s := s) (M := M1) (o := o) (q := wq) (l := l) (js := js) (oc := oc) (qc := wc) false hw1.li.sys.ptr hw1.li.sys.fl.is hw1.wr hjk hjl
      rw [if_neg (by simp)] at hsum
      rw [e1, show ((0 : Int) == 12) = false from rfl, ifF, bX hsum, bI, P3_104_eq, show ((0 : Int) == 0) = true from rfl, ifT, e2, ifT]
      have hc : x.over = true ∧ x.en = 0 := ⟨ho, e1⟩
      rw [if_pos hc] at f2
      rw [if_pos hc] at f2
      have hc0 : x.over = true ∧ (0 : Int) = 0 := ⟨ho, rfl⟩
      obtain ⟨hxp, hxs⟩ := h.xp
      rw [if_pos hc0, hxp]
      rw [hxp] at f2
      have h41 := h4.same f3 (by simp)
      have y0 : M1.ld x4 0 = some (.int .i64 p) := h41.ld 0
      have y1 : M1.ld x4 1 = some (.int .i64 s) := h41.ld 1
      obtain ⟨l1, m1, m2, m3, m4⟩ := hW.ex
      have hwk1 : Wk p s (kjf p s 0 js) l1 := h.wk.back m2
      have hwkm : Wk p s (kjf p s 0 js) lm := hwk1.back m1
      have hpw : 2 ^ js.length ≤ 2 ^ 6 := Nat.pow_le_pow_right (by omega) hjl
      have b1 := msk_lt p s done? js l1
      have b2 := msk_lt p s done? js lm
      have b3 := msk_lt p s nb? js l
      have hle1 := f3.le
      have hflen : (pkFilm x).length = 3 * P := by have := pkFilm_len h.pk; rw [hxp] at this; exact this
      have hK1 : msk p s done? js l1 &&& msk p s done? js lm = msk p s done? js lm := by
        refine msk_and p s done? done? done? js l1 lm lm m1.len.symm m1.len.symm fun j x y z hx hy hz => ?_
        rw [hy] at hz
        cases hz
        obtain ⟨st, es, q1, q2, q3⟩ := jl_two hwk1.jl m1 hy hx
        have e : y.s.adds.length = x.s.adds.length := by rw [q1.ad, q2.ad]
        have := q2.nx
        by_cases hd : done? y = true
        · have hd' := of_decide_eq_true hd
          have : done? x = true := decide_eq_true (by omega)
          rw [hd, this]; rfl
        · rw [show done? y = false by simpa using hd, Bool.and_false]
      have hK2 : msk p s done? js l1 &&& msk p s nb? js l = 0 := by
        rw [msk_and p s done? nb? (fun _ => false) js l1 l l m2.len m2.len, msk_zero]
        intro j x y z hx hy hz
        obtain ⟨st, es, q1, q2, q3⟩ := jl_two h.wk.jl m2 hx hy
        by_cases hd : done? x = true
        · have hd' := of_decide_eq_true hd
          have hpos : x.s.adds.length ≠ 0 := by rw [q1.ad]; simp [flAdds]
          have : nb? y = false := by
            unfold nb?
            rw [decide_eq_true (by omega)]; rfl
          rw [this, Bool.and_false]
        · rw [show done? x = false by simpa using hd, Bool.false_and]
      have hF : WInv (3 * P) (pkFilm x) (wadds p s (msk p s done? js l1) 0 js) := by
        refine ⟨hflen, fun c hc => ?_⟩
        rw [m4 c hc, film_is hS c js 0 (msk p s done? js l1) l1 hwk1 m3 fun n => by rw [Nat.zero_add]]
      obtain ⟨M2, e⟩ := whole_spec (fc := fc) (N := N) (K := msk p s done? js l1) (must := msk p s done? js lm) (not := msk p s nb? js l) hP (fun j hj => by have := hes j hj; omega) hjl (by omega) (by omega) (by omega) (by omega) hK1 hK2 hF (by omega) (hj.same f3 (by simp)) f2
      simp only
      rw [bLI y0, bLI y1, hmu, bX e, bB, ifT, bX aw, bB]
      exact ⟨_, rfl⟩

theorem pwhole_82 {N P S : Nat} {p s : Int} {js : List Jb} {M : AMem} {mb ma : Nat} {L : List Int} {st wi : Nat} {o : Option Addr} {oc : Nat} {l : List Fl} {T b be bb bf : Nat} {x : PK} {wq : Option Addr} {wc : Nat} {looked met : Bool} {lm : List Fl} {mu x1 : Int} {x4 : Nat} {q w : Option Addr} {wn wwc n : Nat} {i : Int} (h : WS N P S p s js M mb ma L st wi o l T b be bb bf x wq looked true lm mu ∨ LI N n M mb ma L st wi o l T)
    (hs : 0 < s) (hl : l.length ≤ 6) (h4 : Rd M x4 [.int .i64 p, .int .i64 s]) :
    ∃ M' met', P3_82 LL x1 q js.length 0 w wn wwc x4 (some ⟨mb, 0, none⟩) (some ⟨b, 0, none⟩) o l.length oc wq (kjf p s 0 js).length wc mu met looked i M = P3_83 LL x1 q js.length 0 w wn wwc x4 (some ⟨mb, 0, none⟩) (some ⟨b, 0, none⟩) o l.length oc wq (kjf p s 0 js).length wc mu met' looked i M' ∧
      Same M M' [] ∧ (met = true → met' = true) ∧ (looked = true → Qt l → met' = true) := by
  have hli : Fls M l ∧ RdL M encF o l.length l := by
    rcases h with h | h
    · exact ⟨h.li.sys.fl, h.li.sys.ptr⟩
    · exact ⟨h.sys.fl, h.sys.ptr⟩
  rw [P3_82_eq]
  cases met with
  | true => exact ⟨M, true, by rw [ifT], .refl _ _, fun h => h, fun _ _ => rfl⟩
  | false =>
    rw [ifF]
    cases looked with
    | false => exact ⟨M, false, by rw [ifF], .refl _ _, fun h => h, fun h => by simp at h⟩
    | true =>
      have y0 : M.ld x4 0 = some (.int .i64 p) := h4.ld 0
      have y1 : M.ld x4 1 = some (.int .i64 s) := h4.ld 1
      obtain ⟨M1, k1, k2⟩ := quiet_spec (p := p) (s := s) (oc := oc) hli.2 hli.1.is hs (by omega)
      rw [ifT, bLI y0, bLI y1, bX k1, bB]
      exact ⟨M1, _, rfl, k2, fun h => by simp at h, fun _ hq => decide_eq_true fun y hy => by
        rcases hq y hy with h | h
        · exact .inl h
        · exact .inr h.symm⟩

theorem pwhole_loop {N P S : Nat} {p s : Int} {js : List Jb} {mb ma : Nat} {o : Option Addr} {oc nl : Nat} {b be bb bf : Nat} {wq : Option Addr} {wc : Nat} {x1 : Int} {x4 : Nat} {q w : Option Addr} {ord : List Int} {most : Nat}
    (hS : s = (S : Int)) (hS0 : 0 < S) (hP : p = (P : Int)) (hP1 : P ≤ 10) (hjl : js.length ≤ 6) (hnl : nl ≤ 6) (hes : ∀ j ∈ js, j.es.length ≤ 24) (hmost : IntKind.wrap .i64 (1 + (Int.tmod (IntKind.wrap .i64 x1) 20)) = (most : Int)) (hord : ∀ y ∈ ord, 0 ≤ y ∧ y < 256) (hoL : ord.length ≤ 200) (hwN : 0 < ord.length → ∀ z ∈ blk w, z < N) (hx4 : x4 < N) :
    ∀ (d i : Nat) (M : AMem) (L : List Int) (st wi : Nat) (l : List Fl) (x : PK) (looked met : Bool) (lm : List Fl) (mu : Int), i + d = ord.length → l.length = nl → N ≤ M.length → Jobs N M q js → Rd M x4 [.int .i64 p, .int .i64 s] → RdI M .u8 w ord.length ord → x.most = most → WS N P S p s js M mb ma L st wi o l i b be bb bf x wq looked met lm mu →
    ∃ M', P3_49 LL x1 q js.length 0 w ord.length 0 x4 (some ⟨mb, 0, none⟩) (some ⟨b, 0, none⟩) o nl oc wq (kjf p s 0 js).length wc mu met looked (i : Int) M = some (.bool true, M') := by
  intro d
  induction d with
  | zero =>
    intro i M L st wi l x looked met lm mu hi hln hNM hj h4 hw hxm h
    rw [P3_49_eq LL L_loop, ifDn (by rw [ofN]; omega), ← hln]
    exact pwhole_end h hS hP hP1 hjl hes hj hNM h4 hmost hxm
  | succ d ih =>
    intro i M L st wi l x looked met lm mu hi hln hNM hj h4 hw hxm h
    have hg : (0 : Int) ≤ (i : Int) ∧ (i : Int) < Int.ofNat ord.length := by rw [ofN]; omega
    have hwr : IntKind.wrap .i64 ((i : Int) + 1) = ((i + 1 : Nat) : Int) := by rw [w64 (by omega)]; rfl
    rw [P3_49_eq LL L_loop, ifD hg.2, bX (pdone_spec h.pk), bB]
    cases ho : x.over with
    | true =>
      rw [show (!true) = false from rfl, ifF, ← hln]
      exact pwhole_end h hS hP hP1 hjl hes hj hNM h4 hmost hxm
    | false =>
      obtain ⟨z, rfl, hz⟩ := hw.2 (by omega)
      have hil : i < ord.length := by omega
      have lz : M.ld z i = some (.int .u8 (ord.getD i 0)) := by rw [hz.ld, ints_nat hil]
      have hzN := hwN (by omega) z (by simp)
      have hob := hord (ord.getD i 0) (by rw [List.getD_eq_getElem?_getD, List.getElem?_eq_getElem hil]; exact List.getElem_mem hil)
      obtain ⟨c, hc⟩ : ∃ c : Nat, ord.getD i 0 = (c : Int) := ⟨(ord.getD i 0).toNat, by omega⟩
      have hwc : IntKind.wrap .i64 (c : Int) = (c : Int) := w64 (by omega)
      have hn1 : IntKind.wrap .i64 (Int.ofNat nl + 1) = ((nl + 1 : Nat) : Int) := by rw [ofN, w64 (by omega)]; rfl
      have htm : Int.tmod (c : Int) ((nl + 1 : Nat) : Int) = ((c % (nl + 1) : Nat) : Int) := Int.ofNat_tmod c (nl + 1)
      have hkl := Nat.mod_lt c (show 0 < nl + 1 by omega)
      rw [hc] at lz
      rw [show (!false) = true from rfl, ifT]
      simp only [↓if_pos hg, Nat.zero_add, Nat.mul_one, Int.toNat_natCast]
      rw [bLI lz, hn1, if_neg (by omega), hwc, htm]
      generalize c % (nl + 1) = k at hkl
      have hs0 : 0 < s := by omega
      -- after a step
      have go : ∀ (M1 : AMem) (Sx : List Nat) (L1 : List Int) (st1 wi1 : Nat) (l1 : List Fl) (x' : PK) (lk : Bool) (lm' : List Fl) (mu' : Int), Same M M1 Sx → (∀ z ∈ Sx, N ≤ z) → l1.length = nl → x'.most = most → (∀ met', (met = true → met' = true) → (lk = true → Qt l1 → met' = true) → WS N P S p s js M1 mb ma L1 st1 wi1 o l1 (i + 1) b be bb bf x' wq lk met' lm' mu') →
          ∃ M', P3_82 LL x1 q js.length 0 (some ⟨z, 0, none⟩) ord.length 0 x4 (some ⟨mb, 0, none⟩) (some ⟨b, 0, none⟩) o nl oc wq (kjf p s 0 js).length wc mu' met lk (i : Int) M1 = some (.bool true, M') := fun M1 Sx L1 st1 wi1 l1 x' lk lm' mu' t hSx hl1 hx' hW => by
        have h41 : Rd M1 x4 [.int .i64 p, .int .i64 s] := h4.same t (fun hb => by have := hSx _ hb; omega)
        have hle := t.le
        obtain ⟨M2, met', e, t2, m1, m2⟩ := pwhole_82 (n := 0) (x1 := x1) (q := q) (w := some ⟨z, 0, none⟩) (wn := ord.length) (wwc := 0) (oc := oc) (wc := wc) (met := met) (mu := mu') (i := (i : Int)) (.inl (hW true (fun _ => rfl) (fun _ _ => rfl))) hs0 (by omega) h41
        rw [hl1] at e
        have hle2 := t2.le
        rw [e, P3_83_eq, hwr]
        have hzl := hz.lt
        exact ih (i + 1) M2 L1 st1 wi1 l1 x' lk met' lm' mu' (by omega) hl1 (by omega) ((hj.same t hSx).same t2 (by simp)) (h41.same t2 (by simp)) (rdi_same' (rdi_same' hw t (fun _ b' hb' hbs => by simp at hb'; have := hSx _ hbs; omega)) t2 (by simp)) hx' ((hW met' m1 m2).same t2)
      have hge : ∀ z ∈ [b, be, bb, bf, mb], N ≤ z := fun z hz => by
        have hz' : z ∈ [b, be, bb, bf] ∨ z = mb := by simpa [or_assoc] using hz
        rcases hz' with hz' | rfl
        · exact (h.dj z hz').1
        · exact h.li.sys.lo.1
      by_cases hk0 : k = 0
      · subst hk0
        rw [show (((0 : Nat) : Int) == 0) = true from rfl, ifT]
        -- a step of the look
        have lk : ∀ (lm' : List Fl) (mu' : Int), WS N P S p s js M mb ma L st wi o l i b be bb bf x wq true met lm' mu' →
            ∃ M', P3_68 LL x1 q js.length 0 (some ⟨z, 0, none⟩) ord.length 0 x4 (some ⟨mb, 0, none⟩) (some ⟨b, 0, none⟩) o nl oc wq (kjf p s 0 js).length wc mu' met true (i : Int) ((0 : Nat) : Int) M = some (.bool true, M') := fun lm' mu' h' => by
          obtain ⟨M1, x', a1, a2, a3, a4⟩ := h'.look (by omega) ho hS hS0 (by omega)
          rw [P3_68_eq, show (((0 : Nat) : Int) == 0) = true from rfl, ifT, bX a1, bB, show (!true) = false from rfl, ifF, ifDn (by omega)]
          exact go M1 _ _ _ _ _ x' true lm' mu' a3 hge hln (by rw [a2, hxm]) (fun met' m1 m2 => a4 met' m1 (m2 rfl))
        cases looked with
        | true =>
          rw [show (!true) = false from rfl, ifF]
          exact lk lm mu h
        | false =>
          have hsum := sum_spec (p := p) (s := s) (M := M) (o := o) (q := wq) (l := l) (js := js) (oc := oc) (qc := wc) true h.li.sys.ptr h.li.sys.fl.is h.wr h.wk.len hjl
          rw [if_pos rfl, hln] at hsum
          rw [show (!false) = true from rfl, ifT, bX hsum, bI]
          exact lk l _ (h.begin hS0)
      · rw [show ((k : Int) == 0) = false by simp; omega, ifF, P3_68_eq, show ((k : Int) == 0) = false by simp; omega, ifF, ifD (by omega)]
        obtain ⟨y, hy⟩ : ∃ y, l[k - 1]? = some y := ⟨_, List.getElem?_eq_getElem (by omega)⟩
        have hk1 : IntKind.wrap .i64 ((k : Int) - 1) = ((k - 1 : Nat) : Int) := by rw [w64 (by omega)]; omega
        obtain ⟨zo, eo, lo⟩ := h.li.sys.ld hy
        obtain ⟨M1, L1, st1, wi1, l1, a1, a2, a3, a4⟩ := h.flush (by omega) ho hy
        subst eo
        have hgk : (0 : Int) ≤ ((k - 1 : Nat) : Int) ∧ ((k - 1 : Nat) : Int) < Int.ofNat nl := by rw [ofN]; omega
        rw [hk1]
        simp only [↓if_pos hgk, Nat.zero_add, Nat.mul_one, Int.toNat_natCast, lo]
        rw [bP, bX a1, bB]
        have hym := List.mem_of_getElem? hy
        refine go M1 _ L1 st1 wi1 l1 x looked lm mu a3 (fun z hz => ?_) (by rw [a2, hln]) hxm (fun met' m1 _ => a4 met' m1)
        simp only [List.mem_cons, List.not_mem_nil, or_false] at hz
        rcases hz with rfl | rfl | rfl
        · exact h.li.sys.lo.2.2 y hym _ (by simp [Fl.bl])
        · exact h.li.sys.lo.1
        · exact h.li.sys.lo.2.1

theorem pwhole (A : AMem) (p s x1 : Int) (q w : Option Addr) (js : List Jb) (ord : List Int) (h1 : 0 ≤ x1 ∧ x1 ≤ 255) (hj : Jobs A.length A q js) (hjl : js.length ≤ 1000000000000000) (hes : ∀ j ∈ js, j.es.length ≤ 1000000000000000) (hr : RdI A .u8 w ord.length ord) (hord : ∀ x ∈ ord, 0 ≤ x ∧ x < 256) (hw : 0 < ord.length → ∀ b ∈ blk w, b < A.length) :
    ∃ A', LL.call 3 [lay p s, .int .u8 x1, .slice q js.length 0, .slice w ord.length 0] A = some (.bool true, A') := by
  rw [L_call3, E3]
  obtain ⟨_, aw⟩ := awake34
  have g1 := cells_new A [.int .i64 p, .int .i64 s] 0
  have s1 := same_app A [AObj.cells [.int .i64 p, .int .i64 s] ⟨false, 0⟩]
  have l1 : (A ++ [AObj.cells [.int .i64 p, .int .i64 s] ⟨false, 0⟩]).length = A.length + 1 := by simp
  generalize A ++ [AObj.cells [.int .i64 p, .int .i64 s] ⟨false, 0⟩] = M at g1 s1 l1 ⊢
  have y0 : M.ld A.length 0 = some (.int .i64 p) := g1.ld 0
  have y1 : M.ld A.length 1 = some (.int .i64 s) := g1.ld 1
  have hj1 := (hj.same s1 (by simp)).up (N' := A.length + 1) (by omega)
  have hr1 := rdi_same' hr s1 (by simp)
  obtain ⟨_, k⟩ := right12_spec p s
  rw [bLI y0, bLI y1, bX k, bB]
  by_cases hR : Rt p s
  rotate_left
  · rw [decide_eq_false hR, ifNF, bX aw, bB]; exact ⟨_, rfl⟩
  rw [decide_eq_true hR, ifNT, bLI y0]
  by_cases hp : p > 10
  · rw [ifD hp, bX aw, bB]; exact ⟨_, rfl⟩
  rw [ifDn hp, bLI y1]
  by_cases hs : s > 4
  · rw [ifD hs, bX aw, bB]; exact ⟨_, rfl⟩
  rw [ifDn hs, bX (fits34_spec hj1 hjl hes), bB]
  by_cases hf : js.length ≤ 6 ∧ totJ js ≤ 16
  rotate_left
  · rw [decide_eq_false hf, ifNF, bX aw, bB]; exact ⟨_, rfl⟩
  rw [decide_eq_true hf, ifNT]
  by_cases hol : Int.ofNat ord.length > 200
  · rw [ifD hol, bX aw, bB]; exact ⟨_, rfl⟩
  rw [ifDn hol, bLI y0, bLI y1]
  rw [ofN] at hol
  have hR' := hR
  obtain ⟨r1, r2, r3, r4⟩ := hR'
  have he24 : ∀ j ∈ js, j.es.length ≤ 24 := fun j hjm => by have := totJ_mem hjm; omega
  obtain ⟨_, k2⟩ := rsize31_spec p s
  rw [if_pos hR] at k2
  obtain ⟨M1, mb, ma, n1, n2, n3, n4, n5, n6, n7⟩ := new_spec (1 + 2 * s + 3 * p) M (by omega)
  have g11 := g1.same n3 (by simp)
  have z0 : M1.ld A.length 0 = some (.int .i64 p) := g11.ld 0
  have z1 : M1.ld A.length 1 = some (.int .i64 s) := g11.ld 1
  have le1 := n3.le
  obtain ⟨S, hS⟩ : ∃ S : Nat, s = (S : Int) := ⟨s.toNat, by omega⟩
  obtain ⟨P, hP⟩ : ∃ P : Nat, p = (P : Int) := ⟨p.toNat, by omega⟩
  have hsz : szN p s = 1 + 2 * S + 3 * P := by unfold szN; omega
  obtain ⟨_, kl⟩ := lay33_spec p s
  obtain ⟨most, hmost, hmo1, hmo2⟩ : ∃ most : Nat, IntKind.wrap .i64 (1 + (Int.tmod (IntKind.wrap .i64 x1) 20)) = (most : Int) ∧ 1 ≤ most ∧ most ≤ 20 := by
    have e1 : IntKind.wrap .i64 x1 = ((x1.toNat : Nat) : Int) := by rw [w64 (by omega)]; omega
    have e2 : Int.tmod ((x1.toNat : Nat) : Int) 20 = ((x1.toNat % 20 : Nat) : Int) := Int.ofNat_tmod x1.toNat 20
    have := Nat.mod_lt x1.toNat (show 0 < 20 by omega)
    exact ⟨1 + x1.toNat % 20, by rw [e1, e2, w64 (by omega)]; omega, by omega, by omega⟩
  obtain ⟨M2, b, be, bb, bf, c1, c2, c3, c4⟩ := pnew_spec (p := p) (s := s) (t := (most : Int)) M1 hR (by omega)
  rw [bX k2, bI, bX n1, bP, bLI z0, bLI z1, bX kl]
  simp only [agg2, Option.bind_some, get0, get1, intOf_int]
  rw [hmost, bX c1, bP, P3_14_eq]
  have le2 := c3.le
  have t2 : Same M M2 [] := (n3.trans c3).mono (by simp)
  have hclt : ∀ z ∈ [b, be, bb, bf], z < M2.length := fun z hz => by
    simp only [List.mem_cons, List.not_mem_nil, or_false] at hz
    rcases hz with rfl | rfl | rfl | rfl
    · exact c2.hd.lt
    · exact c2.ce.lt
    · exact c2.cb.lt
    · exact c2.cf.lt
  obtain ⟨M3, o, oc, l, wq, wc, e1, hM, hWk, hll, hgd⟩ := wmk_loop (N := A.length + 1) (M0 := M2) (p := p) (s := s) (q := q) (js := js) (qc := 0) (x1 := x1) (w := w) (wn := ord.length) (wc := 0) (x4 := A.length) (x9 := some ⟨mb, 0, none⟩) (x10 := some ⟨b, 0, none⟩) (by omega) (by omega) (fun j hjm => by have := he24 j hjm; omega) (by omega)
    js.length 0 M2 none 0 [] none 0 (by omega) (hj1.same t2 (by simp)) (g1.rd.same t2 (by simp)) ⟨⟨.nil _ _ _, ⟨by simp, by simp⟩, by simp, by simp, .refl _ _⟩, .nil _ _ _, rfl, by simp⟩ (by simp) ⟨rfl, by simp⟩ (by simp)
  have sM := hM.mki.same
  have t13 : Same M1 M3 [] := (c3.trans sM).mono (by simp)
  have t3 : Same M M3 [] := (t2.trans sM).mono (by simp)
  have le3 := sM.le
  have hsys : Sys (A.length + 1) M3 mb ma (List.replicate (1 + 2 * s + 3 * p).toNat 0) 0 0 o l := by
    refine ⟨n2.same t13 (by simp) (by simp), hM.mki.fl, ⟨rfl, fun h0 => ?_⟩, fun x hx => ⟨fun hb => ?_, fun hb => ?_⟩, fun z hb => ⟨?_, ?_, (hM.mki.ao z hb).2⟩, by omega, by omega, fun x hx z hb => ?_⟩
    · obtain ⟨a, h1, h2⟩ := hM.mki.sl.pos h0
      exact ⟨a, h1, h2.rd⟩
    · have := (hM.mki.lo x hx _ hb).1; omega
    · have := (hM.mki.lo x hx _ hb).1; omega
    · have := (hM.mki.ao z hb).1; omega
    · have := (hM.mki.ao z hb).1; omega
    · have := (hM.mki.lo x hx z hb).1; omega
  have hsz2 : (1 + 2 * s + 3 * p).toNat = 1 + 2 * S + 3 * P := by omega
  rw [hsz2] at hsys
  have hxp : (pkNew p s most).p = P ∧ (pkNew p s most).s = S := ⟨by show p.toNat = P; omega, by show s.toNat = S; omega⟩
  have hWS : WS (A.length + 1) P S p s js M3 mb ma (List.replicate (1 + 2 * S + 3 * P) 0) 0 0 o l 0 b be bb bf (pkNew p s most) wq false false [] 0 := by
    refine ⟨⟨hsys, fun x hx => by have := (hgd x hx).1; rw [hsz] at this; exact this, by simp, Nat.le_refl _, Nat.le_refl _, fun x hx => by have := (hgd x hx).2.2; omega⟩, OInv.zero fun x hx => (hgd x hx).2.1, c2.same sM (by simp) (by simp) (by simp) (by simp), fun z hz => ?_, ⟨by simp [pls], fun h0 => ?_⟩, fun z hz => ?_, hWk, hxp, fun _ => ⟨rfl, rfl⟩, fun h => by simp at h, fun _ => ⟨rfl, fun h => by simp at h⟩, fun h => by simp [pkNew] at h⟩
    · have q1 := c4 z hz
      have q2 := hclt z hz
      refine ⟨by omega, by omega, by omega, fun hb => ?_, fun hb => ?_, fun y hy hb => ?_⟩
      · have := (hM.mki.ao z hb).1; omega
      · have := (hM.qo z hb).1; omega
      · have := (hM.mki.lo y hy z hb).1; omega
    · obtain ⟨a, h1, h2⟩ := hM.sl.pos h0
      exact ⟨a, h1, h2.rd⟩
    · obtain ⟨q1, q2, q3⟩ := hM.qo z hz
      exact ⟨by omega, by omega, q3⟩
  obtain ⟨M', e⟩ := pwhole_loop (N := A.length + 1) (P := P) (S := S) (p := p) (s := s) (js := js) (mb := mb) (ma := ma) (o := o) (oc := oc) (nl := l.length) (wq := wq) (wc := wc) (x1 := x1) (x4 := A.length) (q := q) (w := w) (ord := ord) (most := most) (b := b) (be := be) (bb := bb) (bf := bf) hS (by omega) hP (by omega) hf.1 (by omega) he24 hmost hord (by omega) (fun h z hz => by have := hw h z hz; omega) (by omega)
    ord.length 0 M3 _ 0 0 l _ false false [] 0 (by omega) rfl (by omega) (hj1.same t3 (by simp)) (g1.rd.same t3 (by simp)) (rdi_same' hr1 t3 (by simp)) (by show Int.toNat (most : Int) = most; omega) hWS
  have e1' : P3_22 LL x1 q js.length 0 w ord.length 0 A.length (some ⟨mb, 0, none⟩) (some ⟨b, 0, none⟩) none 0 0 none 0 0 0 M2 = _ := e1
  refine ⟨M', ?_⟩
  simp only
  rw [e1', P3_41_eq]
  exact e

theorem pwhole_main (A : AMem) (vs : List Value) (h : HoldsA A [(true, [.int .i64, .int .i64]), (false, [.int .u8]), (false, [.slice [.int .i64, .slice [.int .i64, .int .u64, .int .u64, .int .u64]]]), (false, [.slice [.int .u8]])] vs) :
    ∃ A', (lim env).call 3 vs A = some (.bool true, A') := by
  obtain ⟨_, _, rfl, ha, _, _, rfl, hb, _, _, rfl, hc, _, _, rfl, hd, rfl⟩ := h
  obtain ⟨p, s, rfl⟩ := holds_lay ha
  obtain ⟨t, rfl, ht⟩ := holds_int hb
  obtain ⟨q, js, rfl, h1, h5, h6⟩ := holds_jobs hc
  obtain ⟨w, ord, rfl, h2, h3, h4⟩ := holds_bytes hd
  have b1 := bounds_u8 ht
  have := pwhole A p s t q w js ord (by omega) h1 h5 h6 h2 h3 h4
  rw [LL_lim] at this
  exact this

theorem peekWhole_lifted (os : Os) (started : os.Started) (H : Type) (enc : TypeId × Value → H) :
    ReturnsInHanded {} Try.checked os 3 .any (Rows.peekWholeSpec.pre6 enc Try.prog Try.f3 Rows.peekWholeRow.domain false) (Rows.peekWholeSpec.post enc Try.prog Try.f3 false true false false) :=
  lifted_of_args (C := Try.checked) (E := env) (by kernel_rfl) started (by kernel_rfl) Try.func3
    (ChangeSpec.witness6 (enc := enc) (C := Try.checked) false ⟨#[], #[.agg #[.int .i64 0, .int .i64 0], .int .u8 0, .slice none 0 0, .slice none 0 0], []⟩ 8 (by kernel_rfl) (by kernel_rfl) (by kernel_rfl) (by kernel_rfl))
    (by kernel_rfl) (by kernel_rfl) (by kernel_rfl : Try.f3.resultTypes = #[4]) (by kernel_rfl) rfl
    (fun ds hd => by
      match ds, hd with
      | [d1, d2, d3, d4], _ => rfl) envOk (by kernel_rfl) (by kernel_rfl) pwhole_main

theorem peekWhole_holds : Rows.PeekWholeSaid :=
  OpenClaim.holds_of_wide 3 Try.f3 rfl rfl rfl rfl rfl rfl rfl ⟨rfl, rfl, rfl, rfl, rfl⟩ rfl rfl rfl rfl rfl (by kernel_rfl) Try.func3 (by kernel_rfl)
    (of_decide_eq_true (by kernel_rfl)) (by unfold Func.isWrapper; rw [if_neg (of_decide_eq_false (by kernel_rfl))]; exact ⟨rfl, rfl⟩)
    (fun os started H enc _ => peekWhole_lifted os started H enc)


end Go.Proofs.Ytpnknolehckfhaa
