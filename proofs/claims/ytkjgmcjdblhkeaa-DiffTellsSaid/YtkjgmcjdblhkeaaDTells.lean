/- DiffTells: the walk over the law. -/
import Derived.Test.YtkjgmcjdblhkeaaDiffR2
import Derived.Test.YtkjgmcjdblhkeaaEqDTells
import Derived.Test.YtkjgmcjdblhkeaaClosed
set_option linter.unusedVariables false
set_option linter.unusedSimpArgs false
namespace Go.Proofs.Ytkjgmcjdblhkeaa
open Go Go.Ax

theorem awake49' : ∃ M, LL.call 5 [] [] = some (.bool true, M) := closed 40 (by kernel_rfl)

def gz (f : Bool) (x : Int) : Int := if f = true then x else 0
def gl (f : Bool) (l : List Px) : List Px := if f = true then l else []

theorem app_u {Wa Ha Wb Hb : Int} {p q w : Option Addr} {c d wc : Nat} {la lb : List Px} {lw : List Int} (hla : la.length ≤ 9223372036854775807) (hlb : lb.length ≤ 9223372036854775807) (hlw : lw.length ≤ 65536) {M : AMem} (hp : RdL M encP p la.length la) (hq : RdL M encP q lb.length lb) (hw : RdI M .i64 w lw.length lw) {f : Bool} (hf : decide (Fit2 Wa Ha Wb Hb la lb) = f) :
    ∃ M' o oc, LL.call 11 [picV Wa Ha p la.length c, .slice w lw.length wc, picV Wb Hb q lb.length d] M = some (.tuple #[picV (gz f Wa) (gz f Ha) o (gl f (apL 0 la lb lw)).length oc, .bool f], M') ∧ RdL M' encP o (gl f (apL 0 la lb lw)).length (gl f (apL 0 la lb lw)) ∧ Same M M' [] := by
  have h := apply_spec (Wa := Wa) (Ha := Ha) (Wb := Wb) (Hb := Hb) (c := c) (d := d) (wc := wc) hla hlb hlw hp hq hw
  cases f with
  | true =>
    have hf' := of_decide_eq_true hf
    obtain ⟨M', a, h1, h2, h3, _⟩ := h.1 hf'
    have hl := apL_length 0 la lb lw hf'.len
    refine ⟨M', _, 3, ?_, rdl_of h2, h3⟩
    simp only [gz, gl, if_true, hl]
    exact h1
  | false =>
    obtain ⟨M', h1, h3⟩ := h.2 (of_decide_eq_false hf)
    exact ⟨M', none, 0, h1, ⟨rfl, fun h => by simp [gl] at h⟩, h3⟩

theorem rapp_u {Wa Ha Wb Hb : Int} {p q w : Option Addr} {c d wc : Nat} {la lb : List Px} {lw : List Int} (hla : la.length ≤ 9223372036854775807) (hlb : lb.length ≤ 9223372036854775807) (hlw : lw.length ≤ 65536) {M : AMem} (hp : RdL M encP p la.length la) (hq : RdL M encP q lb.length lb) (hw : RdI M .i64 w lw.length lw) {f : Bool} (hf : decide (Fit2 Wa Ha Wb Hb la lb) = f) :
    ∃ M' o oc, LL.call 12 [picV Wa Ha p la.length c, .slice w lw.length wc, picV Wb Hb q lb.length d] M = some (.tuple #[picV (gz f Wa) (gz f Ha) o (gl f (apL 0 la lb lw)).length oc, .bool f], M') ∧ RdL M' encP o (gl f (apL 0 la lb lw)).length (gl f (apL 0 la lb lw)) ∧ Same M M' [] := by
  have h := rapply_spec (Wa := Wa) (Ha := Ha) (Wb := Wb) (Hb := Hb) (c := c) (d := d) (wc := wc) hla hlb hlw hp hq hw
  cases f with
  | true =>
    have hf' := of_decide_eq_true hf
    obtain ⟨M', o, oc, h1, h2, h3⟩ := h.1 hf'
    have hl := apL_length 0 la lb lw hf'.len
    refine ⟨M', o, oc, ?_, ?_, h3⟩
    · simp only [gz, gl, if_true, hl]
      exact h1
    · simp only [gl, if_true, hl]
      exact h2
  | false =>
    obtain ⟨M', h1, h3⟩ := h.2 (of_decide_eq_false hf)
    exact ⟨M', none, 0, h1, ⟨rfl, fun h => by simp [gl] at h⟩, h3⟩

theorem mix_u {Wa Ha Wb Hb pt : Int} {p q : Option Addr} {c d : Nat} {la lb : List Px} (hla : la.length ≤ 9223372036854775807) (hlb : lb.length ≤ 9223372036854775807) {M : AMem} (hp : RdL M encP p la.length la) (hq : RdL M encP q lb.length lb) {f : Bool} (hf : decide (Fit2 Wa Ha Wb Hb la lb ∧ 0 ≤ pt ∧ pt ≤ 1000) = f) :
    ∃ M' o oc, LL.call 13 [picV Wa Ha p la.length c, picV Wb Hb q lb.length d, .int .i64 pt] M = some (.tuple #[picV (gz f Wa) (gz f Ha) o (gl f (mixL pt la lb)).length oc, .bool f], M') ∧ RdL M' encP o (gl f (mixL pt la lb)).length (gl f (mixL pt la lb)) ∧ Same M M' [] := by
  have h := mix_spec (Wa := Wa) (Ha := Ha) (Wb := Wb) (Hb := Hb) (pt := pt) (c := c) (d := d) hla hlb hp hq
  cases f with
  | true =>
    have hf' := of_decide_eq_true hf
    obtain ⟨M', a, h1, h2, h3, _⟩ := h.1 hf'
    have hl := mixL_length (p := pt) hf'.1.len
    refine ⟨M', _, 3, ?_, rdl_of h2, h3⟩
    simp only [gz, gl, if_true, hl]
    exact h1
  | false =>
    obtain ⟨M', h1, h3⟩ := h.2 (of_decide_eq_false hf)
    exact ⟨M', none, 0, h1, ⟨rfl, fun h => by simp [gl] at h⟩, h3⟩

theorem rmix_u {Wa Ha Wb Hb pt : Int} {p q : Option Addr} {c d : Nat} {la lb : List Px} (hla : la.length ≤ 9223372036854775807) (hlb : lb.length ≤ 9223372036854775807) {M : AMem} (hp : RdL M encP p la.length la) (hq : RdL M encP q lb.length lb) {f : Bool} (hf : decide (Fit2 Wa Ha Wb Hb la lb ∧ 0 ≤ pt ∧ pt ≤ 1000) = f) :
    ∃ M' o oc, LL.call 14 [picV Wa Ha p la.length c, picV Wb Hb q lb.length d, .int .i64 pt] M = some (.tuple #[picV (gz f Wa) (gz f Ha) o (gl f (mixL pt la lb)).length oc, .bool f], M') ∧ RdL M' encP o (gl f (mixL pt la lb)).length (gl f (mixL pt la lb)) ∧ Same M M' [] := by
  have h := rmix_spec (Wa := Wa) (Ha := Ha) (Wb := Wb) (Hb := Hb) (pt := pt) (c := c) (d := d) hla hlb hp hq
  cases f with
  | true =>
    have hf' := of_decide_eq_true hf
    obtain ⟨M', o, oc, h1, h2, h3⟩ := h.1 hf'
    have hl := mixL_length (p := pt) hf'.1.len
    refine ⟨M', o, oc, ?_, ?_, h3⟩
    · simp only [gz, gl, if_true, hl]
      exact h1
    · simp only [gl, if_true, hl]
      exact h2
  | false =>
    obtain ⟨M', h1, h3⟩ := h.2 (of_decide_eq_false hf)
    exact ⟨M', none, 0, h1, ⟨rfl, fun h => by simp [gl] at h⟩, h3⟩

theorem smC_ld' {M : AMem} {b : Nat} {s : Sm} (h : Rd M b (smC s)) : M.ld b 0 = some (.int .i64 s.n) ∧ M.ld b 1 = some (.int .i64 s.m) ∧ M.ld b 2 = some (.int .i64 s.a) ∧ M.ld b 3 = some (.int .i64 s.q) := ⟨h.ld 0, h.ld 1, h.ld 2, h.ld 3⟩

theorem two_of2 {x y : Nat} {Wa Ha Wb Hb : Int} {p q : Option Addr} {c d : Nat} {la lb : List Px} {M1 : AMem} (ha : IsPic M1 x Wa Ha p c la) (hb : IsPic M1 y Wb Hb q d lb) :
    ∃ M2 M3, LL.call 7 [.agg #[.int .i64 Wa, .int .i64 Ha, .slice p la.length c]] M1 = some (.agg #[.int .i64 Wa, .int .i64 Ha, .slice p la.length c], M2) ∧ LL.call 7 [.agg #[.int .i64 Wb, .int .i64 Hb, .slice q lb.length d]] M2 = some (.agg #[.int .i64 Wb, .int .i64 Hb, .slice q lb.length d], M3) ∧
      Same M1 M2 [] ∧ Same M2 M3 [] := by
  obtain ⟨M2, e2, s2⟩ := of49_spec Wa Ha p la.length c M1
  obtain ⟨M3, e3, s3⟩ := of49_spec Wb Hb q lb.length d M2
  exact ⟨M2, M3, e2, e3, s2, s3⟩

theorem p8_51 {Wa Ha Wb Hb pt sq : Int} {x5 x6 x11 x13 x18 x20 x22 : Nat} {p q p18 p20 p22 : Option Addr} {ca cb c18 c20 c22 : Nat} {la lb : List Px} {S : Sm} {f g : Bool} {W1 H1 : Int} {L1 : List Px} (hla : la.length ≤ 9223372036854775807) (hlb : lb.length ≤ 9223372036854775807) (hL1 : L1.length ≤ 9223372036854775807) (hsq : -9223372036854775808 ≤ sq ∧ sq ≤ 9223372036854775807) {M : AMem}
    (a : IsPic M x5 Wa Ha p ca la) (b : IsPic M x6 Wb Hb q cb lb) (s : Rd M x11 (smC S)) (t : Rd M x13 (smC S)) (u : IsPic M x18 W1 H1 p18 c18 L1) (v : IsPic M x20 W1 H1 p20 c20 L1) (hf : decide (Fit2 Wa Ha Wb Hb la lb ∧ 0 ≤ pt ∧ pt ≤ 1000) = g) (x : IsPic M x22 (gz g Wa) (gz g Ha) p22 c22 (gl g (mixL pt la lb))) :
    ∃ M', P3_51 LL pt sq x5 x6 x11 f x13 f x18 f x20 f x22 g M = some (.bool true, M') := by
  obtain ⟨_, aw⟩ := awake49'
  obtain ⟨a0, a1, a2⟩ := picV_ld a.hd
  obtain ⟨b0, b1, b2⟩ := picV_ld b.hd
  obtain ⟨M1, o, oc, e1, o1, s1⟩ := rmix_u (c := ca) (d := cb) hla hlb a.px b.px hf
  unfold picV at e1
  obtain ⟨M2, w1, w2, w3, w4⟩ := wr_new M1 [.int .i64 0, .int .i64 0, .slice none 0 0] [.int .i64 (gz g Wa), .int .i64 (gz g Ha), .slice o (gl g (mixL pt la lb)).length oc] 0 rfl
  have t2 : Same M M2 [] := (s1.trans w3).mono (by simp)
  have y : IsPic M2 M1.length (gz g Wa) (gz g Ha) o oc (gl g (mixL pt la lb)) := ⟨w2.rd, o1.same w3 (by simp)⟩
  obtain ⟨m0, m1, m2, m3⟩ := smC_ld' (s.same t2 (by simp))
  obtain ⟨n0, n1, n2, n3⟩ := smC_ld' (t.same t2 (by simp))
  obtain ⟨u0, u1, u2⟩ := picV_ld (u.st t2).hd
  obtain ⟨M3, e3, s3⟩ := back49_spec W1 H1 p18 L1.length c18 M2
  unfold picV at e3
  have t3 : Same M M3 [] := (t2.trans s3).mono (by simp)
  obtain ⟨v0, v1, v2⟩ := picV_ld (v.st t3).hd
  obtain ⟨M4, e4, s4⟩ := same41_spec (Wa := W1) (Ha := H1) (Wb := W1) (Hb := H1) (c := c18) (d := c20) hL1 (u.st t3).px (v.st t3).px
  rw [show decide (W1 = W1 ∧ H1 = H1 ∧ L1 = L1) = true by simp] at e4
  unfold picV at e4
  have t4 : Same M M4 [] := (t3.trans s4).mono (by simp)
  have y4 := (y.st s3).st s4
  obtain ⟨x0, x1, x2⟩ := picV_ld (x.st t4).hd
  obtain ⟨M5, e5, s5⟩ := back49_spec (gz g Wa) (gz g Ha) p22 (gl g (mixL pt la lb)).length c22 M4
  unfold picV at e5
  have t5 : Same M M5 [] := (t4.trans s5).mono (by simp)
  obtain ⟨y0, y1, y2⟩ := picV_ld (y4.st s5).hd
  have hgl : (gl g (mixL pt la lb)).length ≤ 9223372036854775807 := by
    unfold gl
    split
    · have : (mixL pt la lb).length ≤ la.length := by simp [mixL]; omega
      omega
    · simp
  obtain ⟨M6, e6, s6⟩ := same41_spec (Wa := gz g Wa) (Ha := gz g Ha) (Wb := gz g Wa) (Hb := gz g Ha) (c := c22) (d := oc) hgl (x.st t5).px (y4.st s5).px
  rw [show decide (gz g Wa = gz g Wa ∧ gz g Ha = gz g Ha ∧ gl g (mixL pt la lb) = gl g (mixL pt la lb)) = true by simp] at e6
  unfold picV at e6
  obtain ⟨_, r1, k1, k2, k3⟩ := drootE 0 0 0 sq pt
  obtain ⟨_, r2, j1, j2, j3⟩ := rrootE 0 0 0 sq pt hsq
  have hr : r1 = r2 := by
    by_cases hg : 0 ≤ sq ∧ sq ≤ 1099511627776 ∧ 1 ≤ pt ∧ pt ≤ 65536
    · obtain ⟨s1, rfl, h1⟩ := k3 hg
      obtain ⟨s2, rfl, h2⟩ := j3 hg
      rw [h1.uniq h2]
    · rw [k2 hg, j2 hg]
  subst hr
  have hck : chkOk [(34, 33), (45, 44)] [(45, M1.length), (34, x20)] [(44, (M4, M5)), (33, (M2, M3))] = true := by
    have u1 := ver_same s3 (v.st t2).lt (by simp)
    have u2 := ver_same s5 y4.lt (by simp)
    simp [chkOk, List.lookup, u1, u2]
  have bq : ∀ z : Int, (z == z) = true := fun z => by simp
  have bb : ∀ z : Bool, (z == z) = true := fun z => by simp
  refine ⟨M6, ?_⟩
  rw [P3_51_eq]
  simp only [↓bLI a0, ↓bLI a1, ↓bLS a2, ↓bLI b0, ↓bLI b1, ↓bLS b2, ↓bX e1, ↓bT2, ↓bG0, ↓bG1, ↓bA3, ↓bI0, ↓bI1, ↓bS2, ↓bB, ↓bX w1, ↓bLI m0, ↓bLI m1, ↓bLI m2, ↓bLI m3, ↓bLI n0, ↓bLI n1, ↓bLI n2, ↓bLI n3, ↓if_pos (bq _), ↓if_pos (bb _)]
  simp only [↓bLI u0, ↓bLI u1, ↓bLS u2, ↓bX e3, ↓bA3, ↓bI0, ↓bI1, ↓bS2, ↓bLI v0, ↓bLI v1, ↓bLS v2, ↓bX e4, ↓bB, ↓ifT, ↓if_pos (bb _), ↓bLI x0, ↓bLI x1, ↓bLS x2, ↓bX e5, ↓bLI y0, ↓bLI y1, ↓bLS y2, ↓bX e6]
  simp only [↓bX k1, ↓bX j1, ↓bI, ↓if_pos (bq _), ↓bX aw, ↓bB, ↓if_pos hck]

theorem p8_45 {Wa Ha Wb Hb pt sq : Int} {x5 x6 x11 x13 : Nat} {p q w : Option Addr} {ca cb wc : Nat} {la lb : List Px} {lw : List Int} {S : Sm} {f : Bool} (hla : la.length ≤ 9223372036854775807) (hlb : lb.length ≤ 9223372036854775807) (hlw : lw.length ≤ 65536) (hsq : -9223372036854775808 ≤ sq ∧ sq ≤ 9223372036854775807) {M : AMem}
    (a : IsPic M x5 Wa Ha p ca la) (b : IsPic M x6 Wb Hb q cb lb) (hw : RdI M .i64 w lw.length lw) (s : Rd M x11 (smC S)) (t : Rd M x13 (smC S)) (hf : decide (Fit2 Wa Ha Wb Hb la lb) = f) :
    ∃ M', P3_45 LL w lw.length wc pt sq x5 x6 x11 f x13 f M = some (.bool true, M') := by
  have g1 := cells_new M [.int .i64 0, .int .i64 0, .slice none 0 0] 0
  have s1 := same_app M [AObj.cells [.int .i64 0, .int .i64 0, .slice none 0 0] ⟨false, 0⟩]
  have n1 : (M ++ [AObj.cells [.int .i64 0, .int .i64 0, .slice none 0 0] ⟨false, 0⟩]).length = M.length + 1 := by simp
  generalize hM1 : M ++ [AObj.cells [.int .i64 0, .int .i64 0, .slice none 0 0] ⟨false, 0⟩] = M1 at g1 s1 n1
  obtain ⟨a0, a1, a2⟩ := picV_ld (a.st s1).hd
  obtain ⟨M2, M3, e2, e3, s2, s3⟩ := two_of2 (a.st s1) (b.st s1)
  have t2 : Same M M2 [] := (s1.trans s2).mono (by simp)
  have t3 : Same M M3 [] := (t2.trans s3).mono (by simp)
  obtain ⟨b0, b1, b2⟩ := picV_ld (b.st t2).hd
  obtain ⟨M4, o, oc, e4, o4, s4⟩ := app_u (c := ca) (d := cb) (wc := wc) hla hlb hlw (a.st t3).px (b.st t3).px (hw.same t3 (by simp)) hf
  unfold picV at e4
  have g4 := ((g1.same s2 (by simp)).same s3 (by simp)).same s4 (by simp)
  obtain ⟨M5, w1, w2, w3, w4⟩ := g4.wr (o := 0) (vs := [.int .i64 (gz f Wa), .int .i64 (gz f Ha), .slice o (gl f (apL 0 la lb lw)).length oc]) (by simp)
  have w2' : Cells M5 M.length [.int .i64 (gz f Wa), .int .i64 (gz f Ha), .slice o (gl f (apL 0 la lb lw)).length oc] := by simpa [wrL] using w2
  have t5 : Same M M5 [] := ((t3.trans s4).trans w3).mono' (by simp <;> omega)
  -- what was made lies elsewhere
  have hne : ∀ z ∈ blk o, 0 < (gl f (apL 0 la lb lw)).length → z ≠ M.length := by
    intro z hz h0 e
    obtain ⟨za, rfl, hza⟩ := o4.2 h0
    simp at hz
    obtain ⟨m, hm⟩ := hza
    obtain ⟨v, hv⟩ := g4
    rw [← hz, e, hv] at hm
    simp only [Option.some.injEq, AObj.cells.injEq] at hm
    have := congrArg List.length hm.1
    have hfl := flatMap_length encP_length (gl f (apL 0 la lb lw))
    rw [hfl] at this
    simp at this
    have hc := hm.1
    cases hgl : gl f (apL 0 la lb lw) with
    | nil => rw [hgl] at h0; simp at h0
    | cons y ys =>
      rw [hgl] at hc
      simp [encP] at hc
  have o5 : RdL M5 encP o (gl f (apL 0 la lb lw)).length (gl f (apL 0 la lb lw)) := ⟨rfl, fun h0 => by
    obtain ⟨za, rfl, hza⟩ := o4.2 h0
    exact ⟨za, rfl, hza.same w3 (by simp; exact hne za (by simp) h0)⟩⟩
  have c5 : IsPic M5 M.length (gz f Wa) (gz f Ha) o oc (gl f (apL 0 la lb lw)) := ⟨w2'.rd, o5⟩
  have q1 : chkOk [(3, 1), (9, 1), (9, 4), (9, 5)] [(9, M.length), (3, x6)] [(5, (M3, M4)), (4, (M2, M3)), (1, (M1, M2))] = true := by
    have l2 := s2.le
    have l3 := s3.le
    have u1 := ver_same s2 (show x6 < M1.length by have := b.lt; omega) (by simp)
    have u2 := ver_same s2 (show M.length < M1.length by omega) (by simp)
    have u3 := ver_same s3 (show M.length < M2.length by omega) (by simp)
    have u4 := ver_same s4 (show M.length < M3.length by omega) (by simp)
    simp [chkOk, List.lookup, u1, u2, u3, u4]
  obtain ⟨d0, d1, d2⟩ := picV_ld (a.st t5).hd
  obtain ⟨f0, f1, f2⟩ := picV_ld (b.st t5).hd
  obtain ⟨M6, o', oc', e6, o6, s6⟩ := rapp_u (c := ca) (d := cb) (wc := wc) hla hlb hlw (a.st t5).px (b.st t5).px (hw.same t5 (by simp)) hf
  unfold picV at e6
  obtain ⟨M7, y1, y2, y3, y4⟩ := wr_new M6 [.int .i64 0, .int .i64 0, .slice none 0 0] [.int .i64 (gz f Wa), .int .i64 (gz f Ha), .slice o' (gl f (apL 0 la lb lw)).length oc'] 0 rfl
  have t67 : Same M5 M7 [] := (s6.trans y3).mono (by simp)
  have t7 : Same M M7 [] := (t5.trans t67).mono (by simp)
  have d7 : IsPic M7 M6.length (gz f Wa) (gz f Ha) o' oc' (gl f (apL 0 la lb lw)) := ⟨y2.rd, o6.same y3 (by simp)⟩
  have c7 := c5.st t67
  have g8 := cells_new M7 [.int .i64 0, .int .i64 0, .slice none 0 0] 0
  have s8 := same_app M7 [AObj.cells [.int .i64 0, .int .i64 0, .slice none 0 0] ⟨false, 0⟩]
  have n8 : (M7 ++ [AObj.cells [.int .i64 0, .int .i64 0, .slice none 0 0] ⟨false, 0⟩]).length = M7.length + 1 := by simp
  generalize hM8 : M7 ++ [AObj.cells [.int .i64 0, .int .i64 0, .slice none 0 0] ⟨false, 0⟩] = M8 at g8 s8 n8
  have t8 : Same M M8 [] := (t7.trans s8).mono (by simp)
  obtain ⟨h0, h1, h2⟩ := picV_ld (a.st t8).hd
  obtain ⟨M9, M10, e9, e10, s9, s10⟩ := two_of2 (a.st t8) (b.st t8)
  have t9 : Same M M9 [] := (t8.trans s9).mono (by simp)
  have t10 : Same M M10 [] := (t9.trans s10).mono (by simp)
  obtain ⟨i0, i1, i2⟩ := picV_ld (b.st t9).hd
  generalize hg : decide (Fit2 Wa Ha Wb Hb la lb ∧ 0 ≤ pt ∧ pt ≤ 1000) = g
  obtain ⟨M11, r, rc, e11, r11, s11⟩ := mix_u (c := ca) (d := cb) hla hlb (a.st t10).px (b.st t10).px hg
  unfold picV at e11
  have g11 := ((g8.same s9 (by simp)).same s10 (by simp)).same s11 (by simp)
  obtain ⟨M12, z1, z2, z3, z4⟩ := g11.wr (o := 0) (vs := [.int .i64 (gz g Wa), .int .i64 (gz g Ha), .slice r (gl g (mixL pt la lb)).length rc]) (by simp)
  have z2' : Cells M12 M7.length [.int .i64 (gz g Wa), .int .i64 (gz g Ha), .slice r (gl g (mixL pt la lb)).length rc] := by simpa [wrL] using z2
  have l7 := t7.le
  have t12 : Same M M12 [] := ((t10.trans s11).trans z3).mono' (by simp; omega)
  have t712 : Same M7 M12 [] := ((((s8.trans s9).trans s10).trans s11).trans z3).mono' (by simp <;> omega)
  have r12 : RdL M12 encP r (gl g (mixL pt la lb)).length (gl g (mixL pt la lb)) := ⟨rfl, fun h0 => by
    obtain ⟨za, rfl, hza⟩ := r11.2 h0
    refine ⟨za, rfl, hza.same z3 ?_⟩
    simp only [List.mem_singleton]
    intro e
    obtain ⟨m, hm⟩ := hza
    obtain ⟨v, hv⟩ := g11
    rw [e, hv] at hm
    simp only [Option.some.injEq, AObj.cells.injEq] at hm
    have hc := hm.1
    cases hgl : gl g (mixL pt la lb) with
    | nil => rw [hgl] at h0; simp at h0
    | cons y ys =>
      rw [hgl] at hc
      simp [encP] at hc⟩
  have q2 : chkOk [(2, 1), (9, 1), (9, 3), (9, 5)] [(9, M7.length), (2, x6)] [(5, (M10, M11)), (3, (M9, M10)), (1, (M8, M9))] = true := by
    have l9 := s9.le
    have l10 := s10.le
    have u1 := ver_same s9 (show x6 < M8.length by have := b.lt; have := t7.le; omega) (by simp)
    have u2 := ver_same s9 (show M7.length < M8.length by omega) (by simp)
    have u3 := ver_same s10 (show M7.length < M9.length by omega) (by simp)
    have u4 := ver_same s11 (show M7.length < M10.length by omega) (by simp)
    simp [chkOk, List.lookup, u1, u2, u3, u4]
  have hL1 : (gl f (apL 0 la lb lw)).length ≤ 9223372036854775807 := by
    cases f with
    | true =>
      have hf' := of_decide_eq_true hf
      simp only [gl, if_true, apL_length 0 la lb lw hf'.len]; exact hla
    | false => simp [gl]
  obtain ⟨M', hM'⟩ := p8_51 (f := f) hla hlb hL1 hsq (a.st t12) (b.st t12) (s.same t12 (by simp)) (t.same t12 (by simp)) (c7.st t712) (d7.st t712) hg ⟨z2'.rd, r12⟩
  refine ⟨M', ?_⟩
  rw [P3_45_eq, hM1]
  simp only [↓bLI a0, ↓bLI a1, ↓bLS a2, ↓bX e2, ↓bA3, ↓bI0, ↓bI1, ↓bS2, ↓bLI b0, ↓bLI b1, ↓bLS b2, ↓bX e3, ↓bX e4, ↓bT2, ↓bG0, ↓bG1, ↓bB, ↓bX w1, ↓if_pos q1]
  simp only [↓bLI d0, ↓bLI d1, ↓bLS d2, ↓bLI f0, ↓bLI f1, ↓bLS f2, ↓bX e6, ↓bA3, ↓bI0, ↓bI1, ↓bS2, ↓bT2, ↓bG0, ↓bG1, ↓bB, ↓bX y1]
  rw [hM8]
  simp only [↓bLI h0, ↓bLI h1, ↓bLS h2, ↓bX e9, ↓bA3, ↓bI0, ↓bI1, ↓bS2, ↓bLI i0, ↓bLI i1, ↓bLS i2, ↓bX e10, ↓bX e11, ↓bT2, ↓bG0, ↓bG1, ↓bB, ↓bX z1, ↓if_pos q2]
  exact hM'

theorem p8_28 {pt sq : Int} {x5 x6 x11 x13 : Nat} {w o o' : Option Addr} {wn wc oc oc' : Nat} {f : Bool} {lv : List Int} (hl : lv.length ≤ 65536) {M : AMem} (h1 : RdI M .i64 o lv.length lv) (h2 : RdI M .i64 o' lv.length lv) :
    ∀ (d i : Nat), i + d = lv.length → P3_28 LL w wn wc pt sq x5 x6 x11 f x13 f o lv.length oc o' lv.length oc' (i : Int) M = P3_45 LL w wn wc pt sq x5 x6 x11 f x13 f M := by
  intro d
  induction d with
  | zero =>
    intro i hi
    obtain rfl : i = lv.length := by omega
    rw [P3_28_eq LL L_loop]
    have : ¬ ((lv.length : Int) < Int.ofNat lv.length) := by rw [ofN]; omega
    simp only [this, decide_false, Bool.false_eq_true, if_false]
  | succ d ih =>
    intro i hi
    have hil : i < lv.length := by omega
    obtain ⟨a, rfl, ha⟩ := h1.2 (by omega)
    obtain ⟨b, rfl, hb⟩ := h2.2 (by omega)
    obtain ⟨n, hn⟩ : ∃ n, lv[i]? = some n := ⟨_, List.getElem?_eq_getElem hil⟩
    have e1 : M.ld a i = some (.int .i64 n) := by rw [ha.ld, ints_get, hn]; rfl
    have e2 : M.ld b i = some (.int .i64 n) := by rw [hb.ld, ints_get, hn]; rfl
    have hlt : (i : Int) < Int.ofNat lv.length := by rw [ofN]; omega
    have hz : (0 : Int) ≤ (i : Int) := by omega
    have hw : IntKind.wrap .i64 ((i : Int) + 1) = ((i + 1 : Nat) : Int) := by rw [w64 (by omega)]; rfl
    rw [P3_28_eq LL L_loop]
    simp only [hlt, hz, and_self, decide_true, if_true, Nat.zero_add, Int.toNat_natCast, Nat.mul_one, e1, e2, intOf_int, Option.bind_some, bne_self_eq_false, Bool.false_eq_true, if_false, P3_44_eq, hw]
    exact ih (i + 1) (by omega)

theorem p8_14 {Wa Ha Wb Hb pt sq : Int} {x5 x6 x11 x13 : Nat} {p q w : Option Addr} {ca cb wc : Nat} {la lb : List Px} {lw : List Int} {S : Sm} {f : Bool} (hla : la.length ≤ 65536) (hlb : lb.length ≤ 9223372036854775807) (hlw : lw.length ≤ 65536) (hsq : -9223372036854775808 ≤ sq ∧ sq ≤ 9223372036854775807) {M : AMem}
    (a : IsPic M x5 Wa Ha p ca la) (b : IsPic M x6 Wb Hb q cb lb) (hw : RdI M .i64 w lw.length lw) (s : Rd M x11 (smC S)) (t : Rd M x13 (smC S)) (hf : decide (Fit2 Wa Ha Wb Hb la lb) = f) :
    ∃ M', P3_14 LL w lw.length wc pt sq x5 x6 x11 f x13 f M = some (.bool true, M') := by
  obtain ⟨a0, a1, a2⟩ := picV_ld a.hd
  obtain ⟨M2, M3, e2, e3, s2, s3⟩ := two_of2 a b
  have t3 : Same M M3 [] := (s2.trans s3).mono (by simp)
  obtain ⟨b0, b1, b2⟩ := picV_ld (b.st s2).hd
  obtain ⟨M4, o, oc, e4, o4, s4, _⟩ := where_spec (Wa := Wa) (Ha := Ha) (Wb := Wb) (Hb := Hb) (c := ca) (d := cb) (by omega) hlb (a.st t3).px (b.st t3).px
  unfold picV at e4
  have t4 : Same M M4 [] := (t3.trans s4).mono (by simp)
  obtain ⟨d0, d1, d2⟩ := picV_ld (a.st t4).hd
  obtain ⟨f0, f1, f2⟩ := picV_ld (b.st t4).hd
  obtain ⟨M5, o', oc', e5, o5, s5, _⟩ := rwhere_spec (Wa := Wa) (Ha := Ha) (Wb := Wb) (Hb := Hb) (c := ca) (d := cb) (by omega) hlb (a.st t4).px (b.st t4).px
  unfold picV at e5
  have t5 : Same M M5 [] := (t4.trans s5).mono (by simp)
  have hl : (if Fit2 Wa Ha Wb Hb la lb then whL 0 la lb else []).length ≤ 65536 := by
    have := whL_length 0 la lb
    split
    · omega
    · simp
  generalize (if Fit2 Wa Ha Wb Hb la lb then whL 0 la lb else []) = lv at e4 o4 e5 o5 hl
  have q1 : chkOk [(2, 1), (5, 1), (5, 3), (5, 4), (6, 1), (6, 3), (6, 4)] [(6, x6), (5, x5), (2, x6)] [(4, (M3, M4)), (3, (M2, M3)), (1, (M, M2))] = true := by
    have l2 := s2.le
    have l3 := s3.le
    have i1 := a.lt
    have i2 := b.lt
    have u1 := ver_same s2 i1 (by simp)
    have u2 := ver_same s2 i2 (by simp)
    have u3 := ver_same s3 (show x5 < M2.length by omega) (by simp)
    have u4 := ver_same s3 (show x6 < M2.length by omega) (by simp)
    have u5 := ver_same s4 (show x5 < M3.length by omega) (by simp)
    have u6 := ver_same s4 (show x6 < M3.length by omega) (by simp)
    simp [chkOk, List.lookup, u1, u2, u3, u4, u5, u6]
  obtain ⟨M', hM'⟩ := p8_45 (pt := pt) (wc := wc) (by omega) hlb hlw hsq (a.st t5) (b.st t5) (hw.same t5 (by simp)) (s.same t5 (by simp)) (t.same t5 (by simp)) hf
  have hloop := p8_28 (w := w) (wn := lw.length) (wc := wc) (pt := pt) (sq := sq) (x5 := x5) (x6 := x6) (x11 := x11) (x13 := x13) (f := f) (oc := oc) (oc' := oc') hl (RdI.of_slc (o4.same s5 (by simp))) (RdI.of_slc o5) lv.length 0 (by omega)
  have hne : (Int.ofNat lv.length != Int.ofNat lv.length) = false := by simp
  refine ⟨M', ?_⟩
  rw [P3_14_eq]
  simp only [↓bLI a0, ↓bLI a1, ↓bLS a2, ↓bX e2, ↓bA3, ↓bI0, ↓bI1, ↓bS2, ↓bLI b0, ↓bLI b1, ↓bLS b2, ↓bX e3, ↓bX e4, ↓bS, ↓bLI d0, ↓bLI d1, ↓bLS d2, ↓bLI f0, ↓bLI f1, ↓bLS f2, ↓bX e5, ↓if_pos q1, hne, ↓ifF]
  rw [show (0 : Int) = ((0 : Nat) : Int) from rfl, hloop]
  exact hM'

theorem dtells (M : AMem) (Wa Ha Wb Hb pt sq : Int) (p q w : Option Addr) (ca cb wc : Nat) (la lb : List Px) (lw : List Int) (hsq : -9223372036854775808 ≤ sq ∧ sq ≤ 9223372036854775807)
    (hp : RdL M encP p la.length la) (hq : RdL M encP q lb.length lb) (hw : RdI M .i64 w lw.length lw) :
    ∃ M', LL.call 3 [picV Wa Ha p la.length ca, picV Wb Hb q lb.length cb, .slice w lw.length wc, .int .i64 pt, .int .i64 sq] M = some (.bool true, M') := by
  rw [L_call3]
  unfold picV
  rw [E3]
  obtain ⟨_, aw⟩ := awake49'
  have g0 := cells_new M [.int .i64 Wa, .int .i64 Ha, .slice p la.length ca] 0
  have s0 := same_app M [AObj.cells [.int .i64 Wa, .int .i64 Ha, .slice p la.length ca] ⟨false, 0⟩]
  have n0 : (M ++ [AObj.cells [.int .i64 Wa, .int .i64 Ha, .slice p la.length ca] ⟨false, 0⟩]).length = M.length + 1 := by simp
  generalize hM0 : M ++ [AObj.cells [.int .i64 Wa, .int .i64 Ha, .slice p la.length ca] ⟨false, 0⟩] = M0 at g0 s0 n0
  have g1 := cells_new M0 [.int .i64 Wb, .int .i64 Hb, .slice q lb.length cb] 0
  have s1 := same_app M0 [AObj.cells [.int .i64 Wb, .int .i64 Hb, .slice q lb.length cb] ⟨false, 0⟩]
  have n1 : (M0 ++ [AObj.cells [.int .i64 Wb, .int .i64 Hb, .slice q lb.length cb] ⟨false, 0⟩]).length = M0.length + 1 := by simp
  generalize hM1 : M0 ++ [AObj.cells [.int .i64 Wb, .int .i64 Hb, .slice q lb.length cb] ⟨false, 0⟩] = M1 at g1 s1 n1
  have t1 : Same M M1 [] := (s0.trans s1).mono (by simp)
  have a : IsPic M1 M.length Wa Ha p ca la := ⟨(g0.same s1 (by simp)).rd, hp.same t1 (by simp)⟩
  have b : IsPic M1 M0.length Wb Hb q cb lb := ⟨g1.rd, hq.same t1 (by simp)⟩
  obtain ⟨_, _, a2⟩ := picV_ld a.hd
  obtain ⟨_, _, b2⟩ := picV_ld b.hd
  by_cases ha30 : Int.ofNat la.length > 30
  · refine ⟨M1, ?_⟩
    simp only [↓bLS a2, ↓ifD ha30, ↓bX aw, ↓bB]
  by_cases hb30 : Int.ofNat lb.length > 30
  · refine ⟨M1, ?_⟩
    simp only [↓bLS a2, ↓ifDn ha30, ↓bLS b2, ↓ifD hb30, ↓bX aw, ↓bB]
  by_cases hw20 : Int.ofNat lw.length > 20
  · refine ⟨M1, ?_⟩
    simp only [↓bLS a2, ↓ifDn ha30, ↓bLS b2, ↓ifDn hb30, ↓ifD hw20, ↓bX aw, ↓bB]
  simp only [↓bLS a2, ↓ifDn ha30, ↓bLS b2, ↓ifDn hb30, ↓ifDn hw20]
  rw [ofN] at ha30 hb30 hw20
  have g2 := cells_new M1 [.int .i64 0, .int .i64 0, .int .i64 0, .int .i64 0] 0
  have s2 := same_app M1 [AObj.cells [.int .i64 0, .int .i64 0, .int .i64 0, .int .i64 0] ⟨false, 0⟩]
  have n2 : (M1 ++ [AObj.cells [.int .i64 0, .int .i64 0, .int .i64 0, .int .i64 0] ⟨false, 0⟩]).length = M1.length + 1 := by simp
  generalize hM2 : M1 ++ [AObj.cells [.int .i64 0, .int .i64 0, .int .i64 0, .int .i64 0] ⟨false, 0⟩] = M2 at g2 s2 n2
  obtain ⟨c0, c1, c2⟩ := picV_ld (a.st s2).hd
  obtain ⟨M3, M4, e3, e4, s3, s4⟩ := two_of2 (a.st s2) (b.st s2)
  have t3 : Same M1 M3 [] := (s2.trans s3).mono (by simp)
  have t4 : Same M1 M4 [] := (t3.trans s4).mono (by simp)
  obtain ⟨d0, d1, d2⟩ := picV_ld (b.st t3).hd
  generalize hf : decide (Fit2 Wa Ha Wb Hb la lb) = f
  obtain ⟨M5, e5, s5⟩ := of_spec (Wa := Wa) (Ha := Ha) (Wb := Wb) (Hb := Hb) (c := ca) (d := cb) (by omega) (by omega) (a.st t4).px (b.st t4).px
  unfold picV at e5
  rw [hf] at e5
  have g5 := ((g2.same s3 (by simp)).same s4 (by simp)).same s5 (by simp)
  obtain ⟨M6, w1, w2, w3, w4⟩ := g5.wr (o := 0) (vs := smC (smR f la lb)) (by simp [smC])
  have w2' : Cells M6 M1.length (smC (smR f la lb)) := by simpa [wrL, smC] using w2
  unfold smC at w1
  have t6 : Same M1 M6 [] := ((t4.trans s5).trans w3).mono' (by simp <;> omega)
  have q1 : chkOk [(2, 1), (8, 1), (8, 3), (8, 4)] [(8, M1.length), (2, M0.length)] [(4, (M4, M5)), (3, (M3, M4)), (1, (M2, M3))] = true := by
    have l3 := s3.le
    have l4 := s4.le
    have u1 := ver_same s3 (show M0.length < M2.length by omega) (by simp)
    have u2 := ver_same s3 (show M1.length < M2.length by omega) (by simp)
    have u3 := ver_same s4 (show M1.length < M3.length by omega) (by simp)
    have u4 := ver_same s5 (show M1.length < M4.length by omega) (by simp)
    simp [chkOk, List.lookup, u1, u2, u3, u4]
  obtain ⟨f0, f1, f2⟩ := picV_ld (a.st t6).hd
  obtain ⟨h0, h1, h2⟩ := picV_ld (b.st t6).hd
  obtain ⟨M7, e7, s7⟩ := rof_spec (Wa := Wa) (Ha := Ha) (Wb := Wb) (Hb := Hb) (c := ca) (d := cb) (by omega) (by omega) (a.st t6).px (b.st t6).px
  unfold picV at e7
  rw [hf] at e7
  obtain ⟨M8, y1, y2, y3, y4⟩ := wr_new M7 [.int .i64 0, .int .i64 0, .int .i64 0, .int .i64 0] (smC (smR f la lb)) 0 rfl
  unfold smC at y1
  have t68 : Same M6 M8 [] := (s7.trans y3).mono (by simp)
  have t8 : Same M1 M8 [] := (t6.trans t68).mono (by simp)
  have t08 : Same M M8 [] := (t1.trans t8).mono (by simp)
  obtain ⟨M', hM'⟩ := p8_14 (pt := pt) (wc := wc) (by omega) (by omega) (by omega) hsq (a.st t8) (b.st t8) (hw.same t08 (by simp)) (w2'.rd.same t68 (by simp)) y2.rd hf
  refine ⟨M', ?_⟩
  simp only [↓bLI c0, ↓bLI c1, ↓bLS c2, ↓bX e3, ↓bA3, ↓bA4, ↓bI0, ↓bI1, ↓bI2, ↓bI3, ↓bS2, ↓bLI d0, ↓bLI d1, ↓bLS d2, ↓bX e4, ↓bX e5, ↓bT2, ↓bG0, ↓bG1, ↓bB, ↓bX w1, ↓if_pos q1, ↓bLI f0, ↓bLI f1, ↓bLS f2, ↓bLI h0, ↓bLI h1, ↓bLS h2, ↓bX e7, ↓bX y1]
  exact hM'

end Go.Proofs.Ytkjgmcjdblhkeaa
