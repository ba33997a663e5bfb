/- FlushOnce: whatever others do in between, when all are done all adds were done just once each. -/
import Derived.Test.YtmpgngilhhmlcaaRows
import Derived.Test.YtmpgngilhhmlcaaFlushOe
import Derived.Test.YtmpgngilhhmlcaaFlushArg
set_option linter.unusedVariables false
set_option linter.unusedSimpArgs false
namespace Go.Proofs.Ytmpgngilhhmlcaa
open Go Go.Ax
open Go.ChangeShapes Go.WideShapes Go.ChangeAt Go.RowKit

theorem mk33_len' (p s : Int) (js : List Jb) : (mk33 p s js).length ≤ js.length := by
  unfold mk33; rw [List.length_map]; exact List.length_filter_le _ _

theorem rdi_same {M M' : AMem} {S : List Nat} {k : IntKind} {p : Option Addr} {n : Nat} {l : List Int} (h : RdI M k p n l) (hs : Same M M' S) (hb : 0 < n → ∀ x ∈ blk p, x ∉ S) : RdI M' k p n l :=
  ⟨h.1, fun hn => let ⟨a, e, hc⟩ := h.2 hn; ⟨a, e, hc.same hs (hb hn a (by rw [e]; simp))⟩⟩

theorem fonce (A : AMem) (p s : Int) (q w : Option Addr) (js : List Jb) (ord : List Int) (hj : Jobs A.length A q js) (hr : RdI A .u8 w ord.length ord) (hord : ∀ x ∈ ord, 0 ≤ x ∧ x < 256) (hw : 0 < ord.length → ∀ b ∈ blk w, b < A.length) (hjl : js.length ≤ 1000000000000000) (hes : ∀ j ∈ js, j.es.length ≤ 1000000000000000) :
    ∃ A', LL.call 3 [lay p s, .slice q js.length 0, .slice w ord.length 0] A = some (.bool true, A') := by
  rw [L_call3, E3]
  obtain ⟨_, aw⟩ := awake33
  have g1 := cells_new A [.int .i64 p, .int .i64 s] 0
  have s1 := same_app A [AObj.cells [.int .i64 p, .int .i64 s] ⟨false, 0⟩]
  have l1 : (A ++ [AObj.cells [.int .i64 p, .int .i64 s] ⟨false, 0⟩]).length = A.length + 1 := by simp
  generalize A ++ [AObj.cells [.int .i64 p, .int .i64 s] ⟨false, 0⟩] = M at g1 s1 l1 ⊢
  have y0 : M.ld A.length 0 = some (.int .i64 p) := g1.ld 0
  have y1 : M.ld A.length 1 = some (.int .i64 s) := g1.ld 1
  obtain ⟨_, k⟩ := right12_spec p s
  rw [bLI y0, bLI y1, bX k, bB]
  by_cases hR : Rt p s
  rotate_left
  · rw [decide_eq_false hR, ifNF, bX aw, bB]
    exact ⟨_, rfl⟩
  rw [decide_eq_true hR, ifNT, bLI y0]
  by_cases hp : p > 20
  · rw [ifD hp, bX aw, bB]
    exact ⟨_, rfl⟩
  rw [ifDn hp, bLI y1]
  by_cases hs : s > 5
  · rw [ifD hs, bX aw, bB]
    exact ⟨_, rfl⟩
  have hj1 := hj.same s1 (by simp)
  rw [ifDn hs, bX (fits_spec hj1 hjl hes), bB]
  by_cases hf : js.length ≤ 6 ∧ totJ js ≤ 24
  rotate_left
  · rw [decide_eq_false hf, ifNF, bX aw, bB]
    exact ⟨_, rfl⟩
  rw [decide_eq_true hf, ifNT]
  by_cases ho : Int.ofNat ord.length > 150
  · rw [ifD ho, bX aw, bB]
    exact ⟨_, rfl⟩
  rw [ifDn ho, bLI y0, bLI y1]
  rw [ofN] at ho
  have he24 : ∀ j ∈ js, j.es.length ≤ 24 := fun j hjm => by have := totJ_mem hjm; omega
  obtain ⟨h1, h2, h3, h4⟩ := hR
  have hR : Rt p s := ⟨h1, h2, h3, h4⟩
  have hsz : ((szN p s : Nat) : Int) = 1 + 2 * s + 3 * p := by unfold szN; omega
  obtain ⟨_, k2⟩ := rsize31_spec p s
  rw [if_pos hR] at k2
  obtain ⟨M1, mb, ma, n1, n2, n3, n4, n5, n6, n7⟩ := new_spec (1 + 2 * s + 3 * p) M (by omega)
  have g2 := g1.same n3 (by simp)
  have z0 : M1.ld A.length 0 = some (.int .i64 p) := g2.ld 0
  have z1 : M1.ld A.length 1 = some (.int .i64 s) := g2.ld 1
  obtain ⟨M2, o, oc, l, m1, m2, m3, m4, m5, m6, m7⟩ := made_spec (p := p) (s := s) (qc := 0) (by have := n3.le; omega) (hj1.same n3 (by simp)) (by omega) (fun j hjm => by have := he24 j hjm; omega)
  have g3 := g2.same m6 (by simp)
  have v0 : M2.ld A.length 0 = some (.int .i64 p) := g3.ld 0
  have v1 : M2.ld A.length 1 = some (.int .i64 s) := g3.ld 1
  rw [bX k2, bI, bX n1, bP, P3_12_eq, bLI z0, bLI z1, bX m1, bS, bLI v0, bLI v1, bX k2, bI, if_pos (by omega)]
  have hto : Int.toNat (1 + 2 * s + 3 * p) = szN p s := rfl
  rw [hto]
  have gw := cells_new M2 (ints .u64 (List.replicate (szN p s) 0)) 0
  have sw := same_app M2 [AObj.cells (ints .u64 (List.replicate (szN p s) 0)) ⟨false, 0⟩]
  have lw : (M2 ++ [AObj.cells (ints .u64 (List.replicate (szN p s) 0)) ⟨false, 0⟩]).length = M2.length + 1 := by simp
  have hrep : List.replicate (szN p s) (Value.int .u64 0) = ints .u64 (List.replicate (szN p s) 0) := by simp [ints]
  rw [hrep]
  generalize M2 ++ [AObj.cells (ints .u64 (List.replicate (szN p s) 0)) ⟨false, 0⟩] = M3 at gw sw lw ⊢
  have hle := n3.le
  have hle2 := m6.le
  have hml := mk33_len' p s js
  have hll : l.length = (mk33 p s js).length := by rw [← m7, List.length_map]
  have t13 : Same M1 M3 [] := (m6.trans sw).mono (by simp)
  obtain ⟨M4, W, e1, e2, e3, e4⟩ := want_loop (q := q) (qc := 0) (w := w) (wn := ord.length) (wc := 0) (x3 := A.length) (x7 := some ⟨mb, 0, none⟩) (x8 := o) (x8n := l.length) (x8c := oc) (x9 := M2.length) (p := p) (s := s) (N := A.length) (fun j hjm => by have := he24 j hjm; omega) (by omega) (by omega) (by omega) js.length 0 0 M3 _ []
    (by omega) (Nat.le_refl _) ((hj1.same n3 (by simp)).same t13 (by simp)) (g2.same t13 (by simp)).rd gw (winv_zero _)
  rw [List.drop_zero, Nat.zero_add] at e1
  rw [List.drop_zero, List.nil_append] at e3
  have hgd : ∀ x ∈ l, Good (szN p s) x.s ∧ x.s.rd = false ∧ x.s.nx = 0 ∧ x.s.lost = 0 := fun x hx => mk33_good (by rw [← m7]; exact List.mem_map_of_mem hx)
  have hLl : (List.replicate (1 + 2 * s + 3 * p).toNat (0 : Int)).length = szN p s := by simp [szN]
  have hmad : l.map (fun x => x.s.adds) = (mk33 p s js).map FS.adds := by rw [← m7, List.map_map]; rfl
  have hAd : ∀ B ∈ (mk33 p s js).map FS.adds, B.length ≤ 100 := by
    intro B hB
    obtain ⟨y, hy, rfl⟩ := List.mem_map.1 hB
    unfold mk33 at hy
    obtain ⟨j, hjj, rfl⟩ := List.mem_map.1 hy
    have := he24 j (List.mem_filter.1 hjj).1
    have el := esAdds_len s j.es
    simp only [flNew, flAdds, List.length_cons, List.length_append, List.length_nil]
    omega
  have hblt : ∀ x ∈ l, ∀ b ∈ x.bl, b < M2.length := fun x hx b hb => by
    have hx' := m3.is x hx
    have hne : 0 < x.s.adds.length := by
      have : x.s ∈ mk33 p s js := by rw [← m7]; exact List.mem_map_of_mem hx
      unfold mk33 at this
      obtain ⟨j, hjj, e⟩ := List.mem_map.1 this
      rw [← e]; simp [flNew, flAdds]
    exact hx'.lt hne b hb
  have hsys : Sys A.length M2 mb ma (List.replicate (1 + 2 * s + 3 * p).toNat 0) 0 0 o l := by
    refine ⟨n2.same m6 (by simp) (by simp), m3, m2, fun x hx => ⟨fun hb => ?_, fun hb => ?_⟩, fun b hb => ⟨?_, ?_, (m4 b hb).2⟩, by omega, by omega, fun x hx b hb => ?_⟩
    · have := m5 x hx _ hb; omega
    · have := m5 x hx _ hb; omega
    · have := (m4 b hb).1; omega
    · have := (m4 b hb).1; omega
    · have := m5 x hx b hb; omega
  have hob : ∀ b ∈ blk o, 0 < l.length → b < M2.length := fun b hb h0 => m2.lt h0 b hb
  have hsys3 : Sys A.length M4 mb ma (List.replicate (1 + 2 * s + 3 * p).toNat 0) 0 0 o l := by
    have h3 := hsys.same sw (by simp) (by simp) (by simp)
    refine ⟨h3.mem.same e4 (by simp; omega) (by simp; omega), h3.fl.same e4 (fun b hb x hx hbx => ?_), rdl_same h3.ptr e4 (fun h0 b hb hbs => ?_), h3.am, h3.ao, h3.lo⟩
    · simp only [List.mem_singleton] at hb
      have := hblt x hx b hbx; omega
    · simp only [List.mem_singleton] at hbs
      have := hob b hb h0; omega
  have hoi : OI A.length (szN p s) M4 mb ma (List.replicate (1 + 2 * s + 3 * p).toNat 0) 0 0 o l 0 M2.length W ((mk33 p s js).map FS.adds) :=
    ⟨⟨hsys3, fun x hx => (hgd x hx).1, hLl, Nat.le_refl _, Nat.le_refl _, fun x hx => by have := (hgd x hx).2.2.2; omega⟩, OInv.zero (n := szN p s) fun x hx => (hgd x hx).2.2.1, hmad, e2, by omega, by omega, fun x hx hb => by have := hblt x hx _ hb; omega⟩
  obtain ⟨M', e⟩ := ord_loop (oc := oc) (nl := l.length) (wc := 0) (by unfold szN; omega) e3 hAd (by omega) hord (by omega) hw ord.length 0 M4 _ 0 0 l (by omega) rfl (rdi_same (((hr.same s1 (by simp)).same n3 (by simp)).same t13 (by simp)) e4 (fun h0 b hb hbs => by
    simp only [List.mem_singleton] at hbs
    have := hw h0 b hb; omega)) hoi
  refine ⟨M', ?_⟩
  have e1' : P3_22 LL q js.length 0 w ord.length 0 A.length (some ⟨mb, 0, none⟩) o l.length oc M2.length (szN p s) 0 0 M3 = _ := e1
  rw [e1', P3_56_eq, ← hll]
  exact e

theorem fonce_main (A : AMem) (vs : List Value) (h : HoldsA A [(true, [.int .i64, .int .i64]), (false, [.slice [.int .i64, .slice [.int .i64, .int .u64, .int .u64, .int .u64]]]), (false, [.slice [.int .u8]])] vs) :
    ∃ A', (lim env).call 3 vs A = some (.bool true, A') := by
  obtain ⟨p, s, q, js, w, ord, rfl, h1, h2, h3, h4, h5, h6⟩ := jobs33 h
  have := fonce A p s q w js ord h1 h2 h3 h4 h5 h6
  rw [LL_lim] at this
  exact this

theorem flushOnce_lifted (os : Os) (started : os.Started) (H : Type) (enc : TypeId × Value → H) :
    ReturnsInHanded {} Try.checked os 3 .any (Rows.flushOnceSpec.pre6 enc Try.prog Try.f3 Rows.flushOnceRow.domain false) (Rows.flushOnceSpec.post enc Try.prog Try.f3 false true false false) :=
  lifted_of_args (C := Try.checked) (E := env) (by kernel_rfl) started (by kernel_rfl) Try.func3
    (ChangeSpec.witness6 (enc := enc) (C := Try.checked) false ⟨#[], #[.agg #[.int .i64 0, .int .i64 0], .slice none 0 0, .slice none 0 0], []⟩ 8 (by kernel_rfl) (by kernel_rfl) (by kernel_rfl) (by kernel_rfl))
    (by kernel_rfl) (by kernel_rfl) (by kernel_rfl : Try.f3.resultTypes = #[4]) (by kernel_rfl) rfl
    (fun ds hd => by
      match ds, hd with
      | [d1, d2, d3], _ => rfl) envOk (by kernel_rfl) (by kernel_rfl) fonce_main

theorem flushOnce_holds : Rows.FlushOnceSaid :=
  OpenClaim.holds_of_wide 3 Try.f3 rfl rfl rfl rfl rfl rfl rfl ⟨rfl, rfl, rfl, rfl, rfl⟩ rfl rfl rfl rfl rfl (by kernel_rfl) Try.func3 (by kernel_rfl)
    (of_decide_eq_true (by kernel_rfl)) (by unfold Func.isWrapper; rw [if_neg (of_decide_eq_false (by kernel_rfl))]; exact ⟨rfl, rfl⟩)
    (fun os started H enc _ => flushOnce_lifted os started H enc)


end Go.Proofs.Ytmpgngilhhmlcaa
