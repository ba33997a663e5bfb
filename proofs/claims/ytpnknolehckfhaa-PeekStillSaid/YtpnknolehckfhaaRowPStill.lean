/- PeekStill: where nobody adds, the first look tells the film; where a flush is under way, and stays so, none does. -/
import Derived.Test.YtpnknolehckfhaaRows
import Derived.Test.YtpnknolehckfhaaPeekG
import Derived.Test.YtpnknolehckfhaaPeekH
import Derived.Test.YtpnknolehckfhaaPeekArg
import Derived.Test.YtpnknolehckfhaaAwakeP
set_option linter.unusedVariables false
set_option linter.unusedSimpArgs false
namespace Go.Proofs.Ytpnknolehckfhaa
open Go Go.Ax
open Go.ChangeShapes Go.WideShapes Go.ChangeAt Go.RowKit

/-- The end. -/
theorem still_end {p s : Nat} {M : AMem} {b be bb bf mb ma x4 st wi n most : Nat} {L : List Int} {x : PK} {u : Bool} (hR : Rt p s) (hsml : p ≤ 10 ∧ s ≤ 4) (hk : IsPk M b be bb bf x) (hm : IsMem M mb ma L st wi) (hL : L.length = 1 + 2 * s + 3 * p) (h4 : Rd M x4 [.int .i64 (p : Int), .int .i64 (s : Int)])
    (hp : x.p = p) (hs : x.s = s) (ho : x.over = true) (he : x.en = if u = false then 0 else 12) (ht : u = false → x.tries = 1) (ha : x.arr = rdL L p s) (hmo : most ≤ 20) (hn : n = if u = false then 2 * s + 3 * p else most * (2 * s + 3 * p)) :
    ∃ M', P5_71 LL x4 (some ⟨mb, 0, none⟩) u (most : Int) (some ⟨b, 0, none⟩) (n : Int) M = some (.bool true, M') := by
  obtain ⟨r1, r2, r3, r4⟩ := hR
  have hR : Rt (p : Int) (s : Int) := ⟨r1, r2, r3, r4⟩
  obtain ⟨M1, fp, fc, f1, f2, f3, f4⟩ := pfilm_spec hk
  obtain ⟨_, aw⟩ := awake34
  obtain ⟨_, kl⟩ := lay33_spec p s
  obtain ⟨_, ks⟩ := psteps_spec p s
  rw [if_pos hR] at ks
  have h41 := h4.same f3 (by simp)
  have y0 : M1.ld x4 0 = some (.int .i64 (p : Int)) := h41.ld 0
  have y1 : M1.ld x4 1 = some (.int .i64 (s : Int)) := h41.ld 1
  rw [P5_71_eq, bX f1, bT2, bG0, bS, bG1, bI, if_pos ho]
  cases u with
  | true =>
    rw [if_neg (by simp)] at he hn
    have hw : IntKind.wrap .i64 ((most : Int) * (2 * (s : Int) + 3 * (p : Int))) = (n : Int) := by
      have hb : most * (2 * s + 3 * p) ≤ 20 * 38 := Nat.mul_le_mul hmo (by omega)
      have : ((most : Int) * (2 * (s : Int) + 3 * (p : Int))) = ((most * (2 * s + 3 * p) : Nat) : Int) := by push_cast; rfl
      rw [this, w64 (by omega), hn]
    rw [ifT, he, show ((12 : Int) == 12) = true from rfl, ifT, bLI y0, bLI y1, bX kl]
    simp only [agg2, Option.bind_some, get0, get1, intOf_int]
    rw [bX ks, bI, hw, show ((n : Int) == (n : Int)) = true by simp, ifT]
    rw [if_neg (show ¬ (x.over = true ∧ (12 : Int) = 0) by simp), show ((Int.ofNat 0) == 0) = true from rfl, ifT, bX aw, bB]
    exact ⟨_, rfl⟩
  | false =>
    rw [if_pos rfl] at he hn
    have ht1 := ht rfl
    have hc : x.over = true ∧ x.en = 0 := ⟨ho, he⟩
    rw [if_pos hc] at f2
    rw [if_pos hc] at f2
    have hfl : pkFilm x = chans L p s := by unfold pkFilm; rw [ha, hp, hs]; exact rdL_film hL
    rw [hfl, hp] at f2
    have hm1 := hm.same f3 (by simp) (by simp)
    have hk1 := hk.same f3 (by simp) (by simp) (by simp) (by simp)
    obtain ⟨M2, x2, e1, e2, e3, e4⟩ := film_spec hm1 hR hL
    have f22 := f2.same e3 (fun _ => by simp)
    have hcl := chans_len hL
    have g2 : RdF M2 (some ⟨x2, 0, none⟩) p (chans L p s) := ⟨hcl, fun _ => ⟨x2, rfl, e2.rd⟩⟩
    have hsm := same34_spec (c := fc) (d := 3) f22 g2 (by omega)
    rw [decide_eq_true rfl] at hsm
    have hk2 := hk1.same e3 (by simp) (by simp) (by simp) (by simp)
    have htr := ptries_spec hk2
    rw [ht1] at htr
    have hnn : ((n : Int) == 2 * (s : Int) + 3 * (p : Int)) = true := by simp; omega
    rw [ifF, if_pos hc, hp, he, show ((0 : Int) == 0) = true from rfl, ifT, bLI y0, bLI y1, bX kl]
    simp only [agg2, Option.bind_some, get0, get1, intOf_int]
    rw [bX ks, bI, hnn, ifT, bLI y0, bLI y1, bX kl]
    simp only [agg2, Option.bind_some, get0, get1, intOf_int]
    rw [bX e1, bS, bX hsm, bB, ifT, bX htr, bI, show (((1 : Nat) : Int) == 1) = true from rfl, ifT, bX aw, bB]
    exact ⟨_, rfl⟩

theorem pstill (A : AMem) (p s x1 x3 : Int) (q : Option Addr) (js : List Jb) (h1 : 0 ≤ x1 ∧ x1 ≤ 255) (h3 : 0 ≤ x3 ∧ x3 ≤ 255) (hj : Jobs A.length A q js) (hjl : js.length ≤ 1000000000000000) (hes : ∀ j ∈ js, j.es.length ≤ 1000000000000000) :
    ∃ A', LL.call 5 [lay p s, .int .u8 x1, .slice q js.length 0, .int .u8 x3] A = some (.bool true, A') := by
  rw [L_call5, E5]
  obtain ⟨_, aw⟩ := awake34
  have g1 := cells_new A [.int .i64 p, .int .i64 s] 0
  have s1 := same_app A [AObj.cells [.int .i64 p, .int .i64 s] ⟨false, 0⟩]
  have l1 : (A ++ [AObj.cells [.int .i64 p, .int .i64 s] ⟨false, 0⟩]).length = A.length + 1 := by simp
  generalize A ++ [AObj.cells [.int .i64 p, .int .i64 s] ⟨false, 0⟩] = M at g1 s1 l1 ⊢
  have y0 : M.ld A.length 0 = some (.int .i64 p) := g1.ld 0
  have y1 : M.ld A.length 1 = some (.int .i64 s) := g1.ld 1
  have hj1 := (hj.same s1 (by simp)).up (N' := A.length + 1) (by omega)
  obtain ⟨_, k⟩ := right12_spec p s
  rw [bLI y0, bLI y1, bX k, bB]
  by_cases hR : Rt p s
  rotate_left
  · rw [decide_eq_false hR, ifNF, bX aw, bB]; exact ⟨_, rfl⟩
  rw [decide_eq_true hR, ifNT, bLI y0]
  by_cases hp : p > 10
  · rw [ifD hp, bX aw, bB]; exact ⟨_, rfl⟩
  rw [ifDn hp, bLI y1]
  by_cases hs : s > 4
  · rw [ifD hs, bX aw, bB]; exact ⟨_, rfl⟩
  rw [ifDn hs, bX (fits34_spec hj1 hjl hes), bB]
  by_cases hf : js.length ≤ 6 ∧ totJ js ≤ 16
  rotate_left
  · rw [decide_eq_false hf, ifNF, bX aw, bB]; exact ⟨_, rfl⟩
  rw [decide_eq_true hf, ifNT, bLI y0, bLI y1]
  have hR' := hR
  obtain ⟨r1, r2, r3, r4⟩ := hR'
  have he24 : ∀ j ∈ js, j.es.length ≤ 24 := fun j hjm => by have := totJ_mem hjm; omega
  obtain ⟨_, k2⟩ := rsize31_spec p s
  rw [if_pos hR] at k2
  obtain ⟨M1, mb, ma, n1, n2, n3, n4, n5, n6, n7⟩ := new_spec (1 + 2 * s + 3 * p) M (by omega)
  rw [bX k2, bI, bX n1, bP]
  have le1 := n3.le
  obtain ⟨S, hS⟩ : ∃ S : Nat, s = (S : Int) := ⟨s.toNat, by omega⟩
  obtain ⟨P, hP⟩ : ∃ P : Nat, p = (P : Int) := ⟨p.toNat, by omega⟩
  have hsz : szN p s = 1 + 2 * S + 3 * P := by unfold szN; omega
  obtain ⟨M2, u, e, hF, h4, hN2⟩ := still_jobs (N := A.length + 1) (p := p) (s := s) (q := q) (js := js) (x1 := x1) (x3 := x3) (x4 := A.length) (mb := mb) (ma := ma) hS hR hf.1 he24 h3 ⟨by omega, by omega, by omega⟩
    js.length 0 M1 _ 0 0 [] (by omega) (hj1.same n3 (by simp)) ((g1.same n3 (by simp)).rd) n2 (OInv.zero (by simp)) (by simp) (by simp) (by omega) (by omega) (by omega)
  rw [show (0 : Int) = ((0 : Nat) : Int) from rfl, e, P5_54_eq]
  obtain ⟨L, st, wi, m1, m2, m3, m4, m5⟩ := hF.ex
  have z0 : M2.ld A.length 0 = some (.int .i64 p) := h4.ld 0
  have z1 : M2.ld A.length 1 = some (.int .i64 s) := h4.ld 1
  obtain ⟨_, kl⟩ := lay33_spec p s
  obtain ⟨most, hmost, hmo1, hmo2⟩ : ∃ most : Nat, IntKind.wrap .i64 (1 + (Int.tmod (IntKind.wrap .i64 x1) 20)) = (most : Int) ∧ 1 ≤ most ∧ most ≤ 20 := by
    have e1 : IntKind.wrap .i64 x1 = ((x1.toNat : Nat) : Int) := by rw [w64 (by omega)]; omega
    have e2 : Int.tmod ((x1.toNat : Nat) : Int) 20 = ((x1.toNat % 20 : Nat) : Int) := Int.ofNat_tmod x1.toNat 20
    have := Nat.mod_lt x1.toNat (show 0 < 20 by omega)
    exact ⟨1 + x1.toNat % 20, by rw [e1, e2, w64 (by omega)]; omega, by omega, by omega⟩
  obtain ⟨M3, b, be, bb, bf, c1, c2, c3, c4⟩ := pnew_spec (p := p) (s := s) (t := (most : Int)) M2 hR (by omega)
  rw [bLI z0, bLI z1, bX kl]
  simp only [agg2, Option.bind_some, get0, get1, intOf_int]
  rw [hmost, bX c1, bP]
  have mlt : mb < M2.length ∧ ma < M2.length := ⟨m1.hd.lt, m1.cs.lt⟩
  have hd : ∀ z ∈ [b, be, bb, bf], z ≠ mb ∧ z ≠ ma := fun z hz => by have := c4 z hz; omega
  have hx0 : (pkNew p s most).p = P ∧ (pkNew p s most).s = S ∧ (pkNew p s most).most = most ∧ (pkNew p s most).tries = 0 ∧ (pkNew p s most).i = 0 := ⟨by show p.toNat = P; omega, by show s.toNat = S; omega, by show Int.toNat (most : Int) = most; omega, rfl, rfl⟩
  have hRN : Rt (P : Int) (S : Int) := by rw [← hP, ← hS]; exact hR
  have hall : most * (2 * S + 3 * P) ≤ 20 * 38 := Nat.mul_le_mul hmo2 (by omega)
  have hLl : L.length = 1 + 2 * S + 3 * P := by rw [m2, hsz]
  have hm3 := m1.same c3 (by simp) (by simp)
  have hAl : Al L M3 b be bb bf mb ma (pkNew p s most) st wi := ⟨c2, hm3, rfl, rfl, by simp [pkNew]⟩
  have hmm : (most - 1 + 1) * (2 * S + 3 * P) = most * (2 * S + 3 * P) := by rw [show most - 1 + 1 = most by omega]
  obtain ⟨M4, x', d1, d2, ⟨st', wi', d3⟩, d4, d5, d6, d7, d8, d9, d10⟩ := al_all (x4 := A.length) (u := u) (x15 := (most : Int)) hd (p := P) (s := S) (all := 2 * S + 3 * P) hLl rfl hRN (!u) (by
      cases u with
      | false => exact (decide_eq_true (m4 rfl)).symm
      | true => exact (decide_eq_false fun h => by obtain ⟨t, ht, hne⟩ := m5 rfl; exact hne (h t ht)).symm)
    (most - 1) M3 _ st wi 0 hAl hx0.1 hx0.2.1 hx0.2.2.2.2 (by rw [hx0.2.2.1, hx0.2.2.2.1]; omega) (fun _ => hx0.2.2.2.1) (by rw [hmm]; omega) (by rw [hmm]; omega)
  rw [hmm] at d1
  have h44 : Rd M4 A.length [.int .i64 (P : Int), .int .i64 (S : Int)] := by
    rw [← hP, ← hS]
    refine (h4.same c3 (by simp)).same d10 (fun hb => ?_)
    simp only [List.mem_cons, List.not_mem_nil, or_false] at hb
    have q1 := c4 b (by simp)
    have q2 := c4 be (by simp)
    have q3 := c4 bb (by simp)
    have q4 := c4 bf (by simp)
    omega
  obtain ⟨M', ee⟩ := still_end (n := 0 + (if (!u) = true then 2 * S + 3 * P else most * (2 * S + 3 * P))) (u := u) hRN ⟨by omega, by omega⟩ d2 d3 hLl h44 d4 d5 d6 (by rw [d7]; cases u <;> rfl) (fun hu => d8 (by rw [hu]; rfl)) d9 hmo2 (by cases u <;> simp)
  exact ⟨M', d1.trans ee⟩

theorem pstill_main (A : AMem) (vs : List Value) (h : HoldsA A [(true, [.int .i64, .int .i64]), (false, [.int .u8]), (false, [.slice [.int .i64, .slice [.int .i64, .int .u64, .int .u64, .int .u64]]]), (false, [.int .u8])] vs) :
    ∃ A', (lim env).call 5 vs A = some (.bool true, A') := by
  obtain ⟨_, _, rfl, ha, _, _, rfl, hb, _, _, rfl, hc, _, _, rfl, hd, rfl⟩ := h
  obtain ⟨p, s, rfl⟩ := holds_lay ha
  obtain ⟨t, rfl, ht⟩ := holds_int hb
  obtain ⟨q, js, rfl, h1, h5, h6⟩ := holds_jobs hc
  obtain ⟨w, rfl, hw⟩ := holds_int hd
  have b1 := bounds_u8 ht
  have b2 := bounds_u8 hw
  have := pstill A p s t w q js (by omega) (by omega) h1 h5 h6
  rw [LL_lim] at this
  exact this

theorem peekStill_lifted (os : Os) (started : os.Started) (H : Type) (enc : TypeId × Value → H) :
    ReturnsInHanded {} Try.checked os 5 .any (Rows.peekStillSpec.pre6 enc Try.prog Try.f5 Rows.peekStillRow.domain false) (Rows.peekStillSpec.post enc Try.prog Try.f5 false true false false) :=
  lifted_of_args (C := Try.checked) (E := env) (by kernel_rfl) started (by kernel_rfl) Try.func5
    (ChangeSpec.witness6 (enc := enc) (C := Try.checked) false ⟨#[], #[.agg #[.int .i64 0, .int .i64 0], .int .u8 0, .slice none 0 0, .int .u8 0], []⟩ 8 (by kernel_rfl) (by kernel_rfl) (by kernel_rfl) (by kernel_rfl))
    (by kernel_rfl) (by kernel_rfl) (by kernel_rfl : Try.f5.resultTypes = #[4]) (by kernel_rfl) rfl
    (fun ds hd => by
      match ds, hd with
      | [d1, d2, d3, d4], _ => rfl) envOk (by kernel_rfl) (by kernel_rfl) pstill_main

theorem peekStill_holds : Rows.PeekStillSaid :=
  OpenClaim.holds_of_wide 5 Try.f5 rfl rfl rfl rfl rfl rfl rfl ⟨rfl, rfl, rfl, rfl, rfl⟩ rfl rfl rfl rfl rfl (by kernel_rfl) Try.func5 (by kernel_rfl)
    (of_decide_eq_true (by kernel_rfl)) (by unfold Func.isWrapper; rw [if_neg (of_decide_eq_false (by kernel_rfl))]; exact ⟨rfl, rfl⟩)
    (fun os started H enc _ => peekStill_lifted os started H enc)


end Go.Proofs.Ytpnknolehckfhaa
