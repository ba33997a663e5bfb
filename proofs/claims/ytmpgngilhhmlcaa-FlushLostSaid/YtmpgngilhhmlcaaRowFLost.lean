/- FlushLost: no more exchanges are lost than were won, times the others there are; a flush alone loses none, and takes as many steps as are told. -/
import Derived.Test.YtmpgngilhhmlcaaRows
import Derived.Test.YtmpgngilhhmlcaaFlushLo
import Derived.Test.YtmpgngilhhmlcaaFlushArg
set_option linter.unusedVariables false
set_option linter.unusedSimpArgs false
namespace Go.Proofs.Ytmpgngilhhmlcaa
open Go Go.Ax
open Go.ChangeShapes Go.WideShapes Go.ChangeAt Go.RowKit

theorem mk33_ne {p s : Int} {js : List Jb} (h : mk33 p s js ≠ []) : 0 < js.length := by
  cases js with
  | nil => simp [mk33] at h
  | cons a r => simp

theorem mk33_len (p s : Int) (js : List Jb) : (mk33 p s js).length ≤ js.length := by
  unfold mk33; rw [List.length_map]; exact List.length_filter_le _ _

theorem stN_zero {L : List Int} {l : List Fl} (h : ∀ x ∈ l, x.s.rd = false) : stN L l = 0 := by
  unfold stN
  rw [List.countP_eq_zero]
  intro x hx
  simp [stale, h x hx]

theorem flost (A : AMem) (p s : Int) (q w : Option Addr) (js : List Jb) (ord : List Int) (hj : Jobs A.length A q js) (hr : RdI A .u8 w ord.length ord) (hord : ∀ x ∈ ord, 0 ≤ x ∧ x < 256) (hw : 0 < ord.length → ∀ b ∈ blk w, b < A.length) (hjl : js.length ≤ 1000000000000000) (hes : ∀ j ∈ js, j.es.length ≤ 1000000000000000) :
    ∃ A', LL.call 4 [lay p s, .slice q js.length 0, .slice w ord.length 0] A = some (.bool true, A') := by
  rw [L_call4, E4]
  obtain ⟨_, aw⟩ := awake33
  have g1 := cells_new A [.int .i64 p, .int .i64 s] 0
  have s1 := same_app A [AObj.cells [.int .i64 p, .int .i64 s] ⟨false, 0⟩]
  have l1 : (A ++ [AObj.cells [.int .i64 p, .int .i64 s] ⟨false, 0⟩]).length = A.length + 1 := by simp
  generalize A ++ [AObj.cells [.int .i64 p, .int .i64 s] ⟨false, 0⟩] = M at g1 s1 l1 ⊢
  have y0 : M.ld A.length 0 = some (.int .i64 p) := g1.ld 0
  have y1 : M.ld A.length 1 = some (.int .i64 s) := g1.ld 1
  obtain ⟨_, k⟩ := right12_spec p s
  rw [bLI y0, bLI y1, bX k, bB]
  by_cases hR : Rt p s
  rotate_left
  · rw [decide_eq_false hR, ifNF, bX aw, bB]
    exact ⟨_, rfl⟩
  rw [decide_eq_true hR, ifNT, bLI y0]
  by_cases hp : p > 20
  · rw [ifD hp, bX aw, bB]
    exact ⟨_, rfl⟩
  rw [ifDn hp, bLI y1]
  by_cases hs : s > 5
  · rw [ifD hs, bX aw, bB]
    exact ⟨_, rfl⟩
  have hj1 := hj.same s1 (by simp)
  rw [ifDn hs, bX (fits_spec hj1 hjl hes), bB]
  by_cases hf : js.length ≤ 6 ∧ totJ js ≤ 24
  rotate_left
  · rw [decide_eq_false hf, ifNF, bX aw, bB]
    exact ⟨_, rfl⟩
  rw [decide_eq_true hf, ifNT]
  by_cases ho : Int.ofNat ord.length > 150
  · rw [ifD ho, bX aw, bB]
    exact ⟨_, rfl⟩
  rw [ifDn ho, bLI y0, bLI y1]
  rw [ofN] at ho
  have he24 : ∀ j ∈ js, j.es.length ≤ 24 := fun j hjm => by have := totJ_mem hjm; omega
  obtain ⟨h1, h2, h3, h4⟩ := hR
  have hR : Rt p s := ⟨h1, h2, h3, h4⟩
  have hsz : ((szN p s : Nat) : Int) = 1 + 2 * s + 3 * p := by unfold szN; omega
  obtain ⟨_, k2⟩ := rsize31_spec p s
  rw [if_pos hR] at k2
  obtain ⟨M1, mb, ma, n1, n2, n3, n4, n5, n6, n7⟩ := new_spec (1 + 2 * s + 3 * p) M (by omega)
  have g2 := g1.same n3 (by simp)
  have z0 : M1.ld A.length 0 = some (.int .i64 p) := g2.ld 0
  have z1 : M1.ld A.length 1 = some (.int .i64 s) := g2.ld 1
  obtain ⟨M2, o, oc, l, m1, m2, m3, m4, m5, m6, m7⟩ := made_spec (p := p) (s := s) (qc := 0) (by have := n3.le; omega) (hj1.same n3 (by simp)) (by omega) (fun j hjm => by have := he24 j hjm; omega)
  rw [bX k2, bI, bX n1, bP, bLI z0, bLI z1, bX m1, bS, P4_17_eq]
  by_cases hl0 : l.length = 0
  · have : (Int.ofNat l.length == 0) = true := by rw [hl0]; rfl
    rw [this, ifT, bX aw, bB]
    exact ⟨_, rfl⟩
  have hl1 : (Int.ofNat l.length == 0) = false := by rw [ofN]; exact beq_eq_false_iff_ne.2 (by omega)
  rw [hl1, ifF]
  have hll : l.length = (mk33 p s js).length := by rw [← m7, List.length_map]
  have hml := mk33_len p s js
  have hj0 : 0 < js.length := by omega
  obtain ⟨j, hj0'⟩ : ∃ j, js[0]? = some j := ⟨_, List.getElem?_eq_getElem hj0⟩
  have hgd : ∀ x ∈ l, Good (szN p s) x.s ∧ x.s.rd = false ∧ x.s.nx = 0 ∧ x.s.lost = 0 := fun x hx => mk33_good (by rw [← m7]; exact List.mem_map_of_mem hx)
  have hle := n3.le
  have hLl : (List.replicate (1 + 2 * s + 3 * p).toNat (0 : Int)).length = szN p s := by simp [szN]
  have hli : LI A.length (szN p s) M2 mb ma (List.replicate (1 + 2 * s + 3 * p).toNat 0) 0 0 o l 0 := by
    refine ⟨⟨n2.same m6 (by simp) (by simp), m3, m2, fun x hx => ⟨fun hb => ?_, fun hb => ?_⟩, fun b hb => ⟨?_, ?_, (m4 b hb).2⟩, by omega, by omega, fun x hx b hb => ?_⟩, fun x hx => (hgd x hx).1, hLl, Nat.le_refl _, Nat.le_refl _, fun x hx => by have := (hgd x hx).2.2.2; omega⟩
    · have := m5 x hx _ hb; omega
    · have := m5 x hx _ hb; omega
    · have := (m4 b hb).1; omega
    · have := (m4 b hb).1; omega
    · have := m5 x hx b hb; omega
  obtain ⟨M', e⟩ := lost_loop (oc := oc) (jc := 0) (wc := 0) hj0' (he24 j (List.mem_of_getElem? hj0')) hord (by omega) hw (x3 := A.length) (by omega) (n := l.length) (by omega) ord.length 0 M2 _ 0 0 l 0 (by omega) rfl ((((hr.same s1 (by simp)).same n3 (by simp)).same m6 (by simp))) ((hj1.same n3 (by simp)).same m6 (by simp)) hli (g2.same m6 (by simp)).rd (fun x hx hb => by have := m5 x hx _ hb; omega) (by rw [stN_zero fun x hx => (hgd x hx).2.1]; simp)
  exact ⟨M', e⟩

theorem flost_main (A : AMem) (vs : List Value) (h : HoldsA A [(true, [.int .i64, .int .i64]), (false, [.slice [.int .i64, .slice [.int .i64, .int .u64, .int .u64, .int .u64]]]), (false, [.slice [.int .u8]])] vs) :
    ∃ A', (lim env).call 4 vs A = some (.bool true, A') := by
  obtain ⟨p, s, q, js, w, ord, rfl, h1, h2, h3, h4, h5, h6⟩ := jobs33 h
  have := flost A p s q w js ord h1 h2 h3 h4 h5 h6
  rw [LL_lim] at this
  exact this

theorem flushLost_lifted (os : Os) (started : os.Started) (H : Type) (enc : TypeId × Value → H) :
    ReturnsInHanded {} Try.checked os 4 .any (Rows.flushLostSpec.pre6 enc Try.prog Try.f4 Rows.flushLostRow.domain false) (Rows.flushLostSpec.post enc Try.prog Try.f4 false true false false) :=
  lifted_of_args (C := Try.checked) (E := env) (by kernel_rfl) started (by kernel_rfl) Try.func4
    (ChangeSpec.witness6 (enc := enc) (C := Try.checked) false ⟨#[], #[.agg #[.int .i64 0, .int .i64 0], .slice none 0 0, .slice none 0 0], []⟩ 8 (by kernel_rfl) (by kernel_rfl) (by kernel_rfl) (by kernel_rfl))
    (by kernel_rfl) (by kernel_rfl) (by kernel_rfl : Try.f4.resultTypes = #[4]) (by kernel_rfl) rfl
    (fun ds hd => by
      match ds, hd with
      | [d1, d2, d3], _ => rfl) envOk (by kernel_rfl) (by kernel_rfl) flost_main

theorem flushLost_holds : Rows.FlushLostSaid :=
  OpenClaim.holds_of_wide 4 Try.f4 rfl rfl rfl rfl rfl rfl rfl ⟨rfl, rfl, rfl, rfl, rfl⟩ rfl rfl rfl rfl rfl (by kernel_rfl) Try.func4 (by kernel_rfl)
    (of_decide_eq_true (by kernel_rfl)) (by unfold Func.isWrapper; rw [if_neg (of_decide_eq_false (by kernel_rfl))]; exact ⟨rfl, rfl⟩)
    (fun os started H enc _ => flushLost_lifted os started H enc)


end Go.Proofs.Ytmpgngilhhmlcaa
