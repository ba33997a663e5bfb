/- FlushPlays: whatever flushes do in whatever order, their steps, what is left, what was lost, and all cells are the document's. -/
import Derived.Test.YtmpgngilhhmlcaaRows
import Derived.Test.YtmpgngilhhmlcaaFlushY
import Derived.Test.YtmpgngilhhmlcaaFlushArg
set_option linter.unusedVariables false
set_option linter.unusedSimpArgs false
namespace Go.Proofs.Ytmpgngilhhmlcaa
open Go Go.Ax
open Go.ChangeShapes Go.WideShapes Go.ChangeAt Go.RowKit

theorem rdi_same {M M' : AMem} {S : List Nat} {k : IntKind} {p : Option Addr} {n : Nat} {l : List Int} (h : RdI M k p n l) (hs : Same M M' S) (hb : 0 < n → ∀ x ∈ blk p, x ∉ S) : RdI M' k p n l :=
  ⟨h.1, fun hn => let ⟨a, e, hc⟩ := h.2 hn; ⟨a, e, hc.same hs (hb hn a (by rw [e]; simp))⟩⟩

theorem mk33_not {p s : Int} (h : ¬ Rt p s) (js : List Jb) : mk33 p s js = [] := by
  unfold mk33
  rw [List.map_eq_nil_iff, List.filter_eq_nil_iff]
  intro j _ hj
  unfold okJ at hj
  exact h (of_decide_eq_true hj).1.1

theorem fplays2 {N A0 : Nat} {M : AMem} {p s : Int} {q w : Option Addr} {js : List Jb} {ord : List Int} (hj : Jobs N M q js) (hNM : N ≤ A0 ∧ A0 < M.length) (g1 : Rd M A0 [.int .i64 p, .int .i64 s]) (hr : RdI M .u8 w ord.length ord) (hord : ∀ x ∈ ord, 0 ≤ x ∧ x < 256) (hw : 0 < ord.length → ∀ b ∈ blk w, b < N)
    (hsml : Rt p s → p ≤ 20 ∧ s ≤ 5) (hf : js.length ≤ 6 ∧ totJ js ≤ 24) (ho : ord.length ≤ 150) :
    ∃ A', P5_5 LL q js.length 0 w ord.length 0 A0 false M = some (.bool true, A') := by
  have y0 : M.ld A0 0 = some (.int .i64 p) := g1.ld 0
  have y1 : M.ld A0 1 = some (.int .i64 s) := g1.ld 1
  have he24 : ∀ j ∈ js, j.es.length ≤ 24 := fun j hjm => by have := totJ_mem hjm; omega
  obtain ⟨sz, hsz⟩ : ∃ sz : Int, sz = if Rt p s then 1 + 2 * s + 3 * p else 0 := ⟨_, rfl⟩
  have hszr : 0 ≤ sz ∧ sz ≤ 1000 := by
    by_cases hR : Rt p s
    · have := hsml hR
      obtain ⟨h1, h2, h3, h4⟩ := hR
      rw [if_pos ⟨h1, h2, h3, h4⟩] at hsz; omega
    · rw [if_neg hR] at hsz; omega
  obtain ⟨_, k2⟩ := rsize31_spec p s
  rw [← hsz] at k2
  obtain ⟨M1, pr, e1, e2, e3, e4⟩ := rnew_spec sz M (by omega)
  have s2 := same_app M1 [AObj.cells [.slice none 0 0, .int .i64 0, .int .i64 0] ⟨false, 0⟩]
  have g2 := cells_new M1 [.slice none 0 0, .int .i64 0, .int .i64 0] 0
  have l2 : (M1 ++ [AObj.cells [.slice none 0 0, .int .i64 0, .int .i64 0] ⟨false, 0⟩]).length = M1.length + 1 := by simp
  rw [P5_5_eq, ifF, bLI y0, bLI y1, bX k2, bI, bX e1, bT2, bG0, bA3, bS0, bI1, bI2, bG1, bB]
  simp only
  generalize M1 ++ [AObj.cells [.slice none 0 0, .int .i64 0, .int .i64 0] ⟨false, 0⟩] = M2 at s2 g2 l2 ⊢
  obtain ⟨M3, w1, w2, w3, w4⟩ := g2.wr (o := 0) (vs := [.slice pr sz.toNat 1, .int .i64 0, .int .i64 0]) (by simp)
  have w2' : Cells M3 M1.length [.slice pr sz.toNat 1, .int .i64 0, .int .i64 0] := by simpa [wrL] using w2
  have hlr : (List.replicate sz.toNat (0 : Int)).length = sz.toNat := by simp
  have t13 : Same M1 M3 [] := (s2.trans w3).mono' (fun b hb hl => by simp at hb; omega)
  have href : IsRef M3 M1.length pr 1 (List.replicate sz.toNat 0) 0 0 := by
    have hprl := e2.lt
    refine ⟨by rw [hlr]; exact w2', by rw [hlr]; exact e2.same t13 (by simp), fun hb => by have := hprl _ hb; omega⟩
  have t3 : Same M M3 [] := (e3.trans t13).mono (by simp)
  have g3 := g1.same t3 (by simp)
  have z0 : M3.ld A0 0 = some (.int .i64 p) := g3.ld 0
  have z1 : M3.ld A0 1 = some (.int .i64 s) := g3.ld 1
  obtain ⟨M4, mb, ma, n1, n2, n3, n4, n5, n6, n7⟩ := new_spec sz M3 (by omega)
  rw [bX w1, bLI z0, bLI z1, bX k2, bI, bX n1, bP]
  have le1 := e3.le
  have le2 := t13.le
  have le3 := n3.le
  have t4 : Same M M4 [] := (t3.trans n3).mono (by simp)
  obtain ⟨M5, o, oc, l, b, bc, rs, k3, hB, k5⟩ := both_loop (N := N) (p := p) (s := s) (q := q) (js := js) (qc := 0) (w := w) (wn := ord.length) (wc := 0) (x3 := A0) (x7 := M1.length) (x9 := some ⟨mb, 0, none⟩) (by omega) (by omega) (fun j hjm => by have := he24 j hjm; omega) (by omega)
    js.length 0 M4 none 0 [] none 0 [] (by omega) (hj.same t4 (by simp)) (g1.same t4 (by simp)) ⟨⟨.nil _ _ _, ⟨by simp, by simp⟩, by simp, by simp, .refl _ _⟩, .nil _ _ _, by simp, rfl, by simp, by simp⟩ (by simp) (by simp [mk33])
  have hrsl := hB.len
  have k3' : P5_22 LL q js.length 0 w ord.length 0 A0 M1.length (some ⟨mb, 0, none⟩) none 0 0 none 0 0 0 M4 = _ := k3
  have sM := hB.mki.same
  have hprlt := href.cs.lt
  have hMlt := href.hd.lt
  have hgd : ∀ x ∈ l, Good sz.toNat x.s ∧ x.s.rd = false ∧ x.s.nx = 0 ∧ x.s.lost = 0 := fun x hx => by
    have hm : x.s ∈ mk33 p s js := by rw [← k5]; exact List.mem_map_of_mem hx
    by_cases hR : Rt p s
    · have : sz.toNat = szN p s := by rw [hsz, if_pos hR]; rfl
      rw [this]
      exact mk33_good hm
    · rw [mk33_not hR] at hm; simp at hm
  have hsys : Sys N M5 mb ma (List.replicate sz.toNat 0) 0 0 o l := by
    refine ⟨n2.same sM (by simp) (by simp), hB.mki.fl, ⟨rfl, fun h0 => ?_⟩, fun x hx => ⟨fun hb => ?_, fun hb => ?_⟩, fun b hb => ⟨?_, ?_, (hB.mki.ao b hb).2⟩, by omega, by omega, fun x hx b hb => ?_⟩
    · obtain ⟨a, h1, h2⟩ := hB.mki.sl.pos h0
      exact ⟨a, h1, h2.rd⟩
    · have := (hB.mki.lo x hx _ hb).1; omega
    · have := (hB.mki.lo x hx _ hb).1; omega
    · have := (hB.mki.ao b hb).1; omega
    · have := (hB.mki.ao b hb).1; omega
    · have := (hB.mki.lo x hx b hb).1; omega
  have hPI : PI N sz.toNat M5 mb ma (List.replicate sz.toNat 0) 0 0 o l 0 M1.length pr 1 b bc rs := by
    refine ⟨⟨hsys, fun x hx => (hgd x hx).1, hlr, Nat.le_refl _, Nat.le_refl _, fun x hx => by have := (hgd x hx).2.2.2; omega⟩, (href.same n3 (by simp) (by simp)).same sM (by simp) (by simp), hB.sl, hB.ad, hB.eq, fun x hx => ?_, fun b' hb => ?_, fun b' hb => ?_, fun x hx => ?_⟩
    · have hm : x.s ∈ rs.map Rf.s := List.mem_map_of_mem hx
      rw [hB.eq, k5] at hm
      unfold mk33 at hm
      obtain ⟨j, hjj, e⟩ := List.mem_map.1 hm
      have := he24 j (List.mem_filter.1 hjj).1
      have el := esAdds_len s j.es
      rw [← e]
      simp only [flNew, flAdds, List.length_cons, List.length_append, List.length_nil]
      omega
    · simp only [List.mem_append, List.mem_cons, List.mem_map] at hb
      have hold : N ≤ b' → b' < M3.length → N ≤ b' ∧ b' ≠ mb ∧ b' ≠ ma ∧ b' ∉ blk o ∧ ∀ x ∈ l, b' ∉ x.bl := fun h1 h2 =>
        ⟨h1, by omega, by omega, fun h => by have := (hB.mki.ao b' h).1; omega, fun x hx h => by have := (hB.mki.lo x hx b' h).1; omega⟩
      rcases hb with (rfl | hb | hb) | ⟨x, hx, rfl⟩
      · exact hold (by omega) (by omega)
      · have := e4 b' hb
        exact hold (by omega) (hprlt b' hb)
      · obtain ⟨q1, q2, q3⟩ := hB.qo b' hb
        exact ⟨by omega, by omega, by omega, q2, q3⟩
      · obtain ⟨q1, q2, q3, q4⟩ := hB.zo x hx
        exact ⟨by omega, by omega, by omega, q2, q4⟩
    · obtain ⟨q1, _⟩ := hB.qo b' hb
      exact ⟨by omega, fun h => by have := hprlt b' h; omega⟩
    · obtain ⟨q1, q2, q3, q4⟩ := hB.zo x hx
      exact ⟨by omega, fun h => by have := hprlt _ h; omega, q3⟩
  have t5 : Same M M5 [] := (t4.trans sM).mono (by simp)
  obtain ⟨M', e⟩ := plays_loop (oc := oc) (nl := l.length) (wc := 0) (n := sz.toNat) (by omega) hord ho hw ord.length 0 M5 _ 0 0 l rs (by omega) rfl (rdi_same hr t5 (by simp)) hPI
  refine ⟨M', ?_⟩
  rw [k3', hrsl]
  exact e

theorem fplays (A : AMem) (p s : Int) (q w : Option Addr) (js : List Jb) (ord : List Int) (hj : Jobs A.length A q js) (hr : RdI A .u8 w ord.length ord) (hord : ∀ x ∈ ord, 0 ≤ x ∧ x < 256) (hw : 0 < ord.length → ∀ b ∈ blk w, b < A.length) (hjl : js.length ≤ 1000000000000000) (hes : ∀ j ∈ js, j.es.length ≤ 1000000000000000) :
    ∃ A', LL.call 5 [lay p s, .slice q js.length 0, .slice w ord.length 0] A = some (.bool true, A') := by
  rw [L_call5, E5]
  obtain ⟨_, aw⟩ := awake33
  have g1 := cells_new A [.int .i64 p, .int .i64 s] 0
  have s1 := same_app A [AObj.cells [.int .i64 p, .int .i64 s] ⟨false, 0⟩]
  have l1 : (A ++ [AObj.cells [.int .i64 p, .int .i64 s] ⟨false, 0⟩]).length = A.length + 1 := by simp
  generalize A ++ [AObj.cells [.int .i64 p, .int .i64 s] ⟨false, 0⟩] = M at g1 s1 l1 ⊢
  have y0 : M.ld A.length 0 = some (.int .i64 p) := g1.ld 0
  have y1 : M.ld A.length 1 = some (.int .i64 s) := g1.ld 1
  have hj1 := hj.same s1 (by simp)
  have hr1 := hr.same s1 (by simp)
  obtain ⟨_, k⟩ := right12_spec p s
  have off : ∃ A', P5_5 LL q js.length 0 w ord.length 0 A.length true M = some (.bool true, A') := by
    rw [P5_5_eq, ifT, bX aw, bB]
    exact ⟨_, rfl⟩
  have rest : (Rt p s → p ≤ 20 ∧ s ≤ 5) → ∃ A', (Option.bind (LL.call 7 [.slice q js.length 0] M) fun r_7 =>
          (Option.bind (boolOf? (some r_7.1)) fun q_8 =>
          (if (!q_8) = true
          then P5_5 LL q js.length 0 w ord.length 0 A.length true r_7.2
          else P5_5 LL q js.length 0 w ord.length 0 A.length (decide ((Int.ofNat ord.length) > 150)) r_7.2))) = some (.bool true, A') := fun hsml => by
    rw [bX (fits_spec hj1 hjl hes), bB]
    by_cases hf : js.length ≤ 6 ∧ totJ js ≤ 24
    · rw [decide_eq_true hf, ifNT]
      by_cases ho : Int.ofNat ord.length > 150
      · rw [decide_eq_true ho]; exact off
      · rw [decide_eq_false ho]
        rw [ofN] at ho
        exact fplays2 (M := M) hj1 ⟨Nat.le_refl _, by omega⟩ g1.rd hr1 hord hw hsml hf (by omega)
    · rw [decide_eq_false hf, ifNF]
      exact off
  rw [bLI y0, bLI y1, bX k, bB]
  by_cases hR : Rt p s
  · rw [decide_eq_true hR, ifT, bLI y0]
    by_cases hp : p > 20
    · rw [ifD hp]; exact off
    rw [ifDn hp, bLI y1]
    by_cases hs : s > 5
    · rw [ifD hs]; exact off
    rw [ifDn hs]
    exact rest (fun _ => by omega)
  · rw [decide_eq_false hR, ifF]
    exact rest (fun h => absurd h hR)

theorem fplays_main (A : AMem) (vs : List Value) (h : HoldsA A [(true, [.int .i64, .int .i64]), (false, [.slice [.int .i64, .slice [.int .i64, .int .u64, .int .u64, .int .u64]]]), (false, [.slice [.int .u8]])] vs) :
    ∃ A', (lim env).call 5 vs A = some (.bool true, A') := by
  obtain ⟨p, s, q, js, w, ord, rfl, h1, h2, h3, h4, h5, h6⟩ := jobs33 h
  have := fplays A p s q w js ord h1 h2 h3 h4 h5 h6
  rw [LL_lim] at this
  exact this

theorem flushPlays_lifted (os : Os) (started : os.Started) (H : Type) (enc : TypeId × Value → H) :
    ReturnsInHanded {} Try.checked os 5 .any (Rows.flushPlaysSpec.pre6 enc Try.prog Try.f5 Rows.flushPlaysRow.domain false) (Rows.flushPlaysSpec.post enc Try.prog Try.f5 false true false false) :=
  lifted_of_args (C := Try.checked) (E := env) (by kernel_rfl) started (by kernel_rfl) Try.func5
    (ChangeSpec.witness6 (enc := enc) (C := Try.checked) false ⟨#[], #[.agg #[.int .i64 0, .int .i64 0], .slice none 0 0, .slice none 0 0], []⟩ 8 (by kernel_rfl) (by kernel_rfl) (by kernel_rfl) (by kernel_rfl))
    (by kernel_rfl) (by kernel_rfl) (by kernel_rfl : Try.f5.resultTypes = #[4]) (by kernel_rfl) rfl
    (fun ds hd => by
      match ds, hd with
      | [d1, d2, d3], _ => rfl) envOk (by kernel_rfl) (by kernel_rfl) fplays_main

theorem flushPlays_holds : Rows.FlushPlaysSaid :=
  OpenClaim.holds_of_wide 5 Try.f5 rfl rfl rfl rfl rfl rfl rfl ⟨rfl, rfl, rfl, rfl, rfl⟩ rfl rfl rfl rfl rfl (by kernel_rfl) Try.func5 (by kernel_rfl)
    (of_decide_eq_true (by kernel_rfl)) (by unfold Func.isWrapper; rw [if_neg (of_decide_eq_false (by kernel_rfl))]; exact ⟨rfl, rfl⟩)
    (fun os started H enc _ => flushPlays_lifted os started H enc)


end Go.Proofs.Ytmpgngilhhmlcaa
