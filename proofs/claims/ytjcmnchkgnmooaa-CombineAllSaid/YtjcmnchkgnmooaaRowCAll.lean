/- CombineAll: the row. -/
import Derived.Test.YtjcmnchkgnmooaaCAllQ
import Derived.Test.YtjcmnchkgnmooaaAxD
set_option linter.unusedVariables false
set_option linter.unusedSimpArgs false
set_option maxRecDepth 100000
namespace Go.Proofs.Ytjcmnchkgnmooaa
open Go Go.Ax
open Go.ChangeShapes Go.WideShapes Go.ChangeAt Go.RowKit

theorem call_law (A : AMem) (p s x1 : Int) (w : Option Addr) (l : List Sp) (h1 : 0 ≤ x1 ∧ x1 ≤ 255) (hw : RdL A encT w l.length l) (hwA : 0 < l.length → ∀ b ∈ blk w, b < A.length) :
    ∃ A', LL.call 3 [lay p s, .int .u8 x1, .slice w l.length 0] A = some (.bool true, A') := by
  rw [L_call3, E3]
  obtain ⟨_, aw⟩ := awake32
  have g1 := cells_new A [.int .i64 p, .int .i64 s] 0
  have s1 := same_app A [AObj.cells [.int .i64 p, .int .i64 s] ⟨false, 0⟩]
  have l1 : (A ++ [AObj.cells [.int .i64 p, .int .i64 s] ⟨false, 0⟩]).length = A.length + 1 := by simp
  generalize A ++ [AObj.cells [.int .i64 p, .int .i64 s] ⟨false, 0⟩] = M at g1 s1 l1 ⊢
  have y0 : M.ld A.length 0 = some (.int .i64 p) := g1.ld 0
  have y1 : M.ld A.length 1 = some (.int .i64 s) := g1.ld 1
  obtain ⟨_, k⟩ := right12_spec p s
  rw [bLI y0, bLI y1, bX k, bB]
  by_cases hR : Rt p s
  rotate_left
  · rw [decide_eq_false hR, ifNF, bX aw, bB]; exact ⟨_, rfl⟩
  rw [decide_eq_true hR, ifNT, bLI y1]
  by_cases hs : s > 16
  · rw [ifD hs, bX aw, bB]; exact ⟨_, rfl⟩
  rw [ifDn hs, bLI y0]
  by_cases hp : p > 64
  · rw [ifD hp, bX aw, bB]; exact ⟨_, rfl⟩
  rw [ifDn hp]
  by_cases hl : Int.ofNat l.length > 40
  · rw [ifD hl, bX aw, bB]; exact ⟨_, rfl⟩
  rw [ifDn hl]
  rw [ofN] at hl
  obtain ⟨n, hn, hn1, hn2⟩ : ∃ n : Nat, IntKind.wrap .i64 (1 + (Int.tmod (IntKind.wrap .i64 x1) 20)) = (n : Int) ∧ 1 ≤ n ∧ n ≤ 20 := by
    have e1 : IntKind.wrap .i64 x1 = ((x1.toNat : Nat) : Int) := by rw [w64 (by omega)]; omega
    have e2 : Int.tmod ((x1.toNat : Nat) : Int) 20 = ((x1.toNat % 20 : Nat) : Int) := Int.ofNat_tmod x1.toNat 20
    have := Nat.mod_lt x1.toNat (show 0 < 20 by omega)
    exact ⟨1 + x1.toNat % 20, by rw [e1, e2, w64 (by omega)]; omega, by omega, by omega⟩
  rw [hn, P3_12_eq, bLI y0, bLI y1]
  obtain ⟨M2, b, mp, a1, a2, a3, a4, a5⟩ := bnew_spec (p := p) (s := s) (n := (n : Int)) M hR (by omega)
  rw [bX a1, bP]
  have le2 := a3.le
  have blt := a2.lt
  show ∃ A', P3_20 LL w l.length 0 A.length (n : Int) (some ⟨b, 0, none⟩) M2.length (M2 ++ [AObj.cells (ints .u64 (List.replicate 64 0)) ⟨false, 0⟩]).length 0 ((M2 ++ [AObj.cells (ints .u64 (List.replicate 64 0)) ⟨false, 0⟩]) ++ [AObj.cells (ints .u64 (List.replicate 64 0)) ⟨false, 0⟩]) = some (.bool true, A')
  have g3 := cells_new M2 (ints .u64 (List.replicate 64 0)) 0
  have s3 := same_app M2 [AObj.cells (ints .u64 (List.replicate 64 0)) ⟨false, 0⟩]
  have l3 : (M2 ++ [AObj.cells (ints .u64 (List.replicate 64 0)) ⟨false, 0⟩]).length = M2.length + 1 := by simp
  generalize M2 ++ [AObj.cells (ints .u64 (List.replicate 64 0)) ⟨false, 0⟩] = M3 at g3 s3 l3 ⊢
  have g4 := cells_new M3 (ints .u64 (List.replicate 64 0)) 0
  have s4 := same_app M3 [AObj.cells (ints .u64 (List.replicate 64 0)) ⟨false, 0⟩]
  have l4 : (M3 ++ [AObj.cells (ints .u64 (List.replicate 64 0)) ⟨false, 0⟩]).length = M3.length + 1 := by simp
  have g34 := g3.same s4 (by simp)
  generalize M3 ++ [AObj.cells (ints .u64 (List.replicate 64 0)) ⟨false, 0⟩] = M4 at g4 s4 l4 g34 ⊢
  have t4 : Same M M4 [] := ((a3.trans s3).trans s4).mono (by simp)
  have t24 : Same M2 M4 [] := (s3.trans s4).mono (by simp)
  have hz : ∀ c, c < 64 → (List.replicate 64 (0 : Int)).getD c 0 = 0 := fun c hc => by
    rw [List.getD_eq_getElem?_getD, List.getElem?_replicate, if_pos hc]; rfl
  have hbal : Bal (List.replicate 64 0) (List.replicate 64 0) [] := by
    refine ⟨by simp, ⟨by simp, fun c hc => by rw [hz c hc]; omega⟩, fun c hc => ?_⟩
    rw [hz c hc, esum_nil]; rfl
  have hb2 : ∀ z ∈ bufB b mp none, A.length + 1 ≤ z ∧ z < M2.length := fun z hz => by
    have := blt z hz
    simp only [bufB, blk_none, List.mem_cons, List.not_mem_nil, or_false] at hz
    rcases hz with rfl | rfl <;> omega
  have hC : CI (A.length + 1) M4 b mp none 0 p s (n : Int) [] M2.length M3.length (List.replicate 64 0) (List.replicate 64 0) :=
    ⟨a2.same t24 (by simp), g34, g4, hbal, ⟨by omega, fun hm => by have := hb2 _ hm; omega, fun hm => by have := hb2 _ hm; omega⟩, by omega, by omega, fun z hz => (hb2 z hz).1⟩
  have hwM : RdL M4 encT w l.length l := ⟨rfl, fun h0 => by
    obtain ⟨a, ea, ha⟩ := hw.2 h0
    exact ⟨a, ea, (ha.same s1 (by simp)).same t4 (by simp)⟩⟩
  obtain ⟨M5, q5, qc5, es5, I5, O5, e5, c5, h35, hN5⟩ := call_steps (N := A.length + 1) (x7 := (n : Int)) (x3 := A.length) (by omega) (by omega) (by omega) (fun h z hz => by have := hwA h z hz; omega) l.length 0 M4 none 0 [] _ _ (by omega) hwM (g1.rd.same t4 (by simp)) (by omega) hC
  have e5' : P3_20 LL w l.length 0 A.length (n : Int) (some ⟨b, 0, none⟩) M2.length M3.length 0 M4 = _ := e5
  have hlen := blen_spec c5.buf
  have hrm := c5.buf.rm
  obtain ⟨M6, o6, oc6, ks, b1, b2, b3, b4, b5, b6⟩ := stripes_spec c5.buf
  rw [e5', P3_84_eq, bX hlen, bI, ifDn (by omega), bX b1, bS]
  have le6 := b2.le
  have blt5 := c5.buf.lt
  have l10 := c5.c10.lt
  obtain ⟨a, ha⟩ : ∃ a, 0 < ks.length → o6 = some ⟨a, 0, none⟩ ∧ (∃ cs, Rd M6 a cs ∧ ∀ i, i < ks.length → cs[i]? = (ints .i64 ks)[i]?) ∧ M5.length ≤ a := by
    by_cases h0 : 0 < ks.length
    · obtain ⟨a, cs, e1, e2, e3⟩ := b6 h0
      exact ⟨a, fun _ => ⟨e1, ⟨cs, e2, e3⟩, b3 a (by rw [e1]; simp)⟩⟩
    · exact ⟨0, fun h => absurd h h0⟩
  obtain ⟨M7, q7, qc7, I7, O7, all, e7, c7, hall⟩ := call_out (N := A.length + 1) (x3 := A.length) (x15 := o6) (x15c := oc6) (x7 := (n : Int)) (n := n) (ks := ks) (a := a) (b := b) (mp := mp) (x9 := M2.length) (x10 := M3.length) (p := p) (s := s) (room := (n : Int)) (by omega) (by omega) (by omega) (by omega) (fun h0 => ⟨(ha h0).1, by have := (ha h0).2.2; have := blt5 b (by simp [bufB]); omega, by have := (ha h0).2.2; have := blt5 mp (by simp [bufB]); omega, by have := (ha h0).2.2; omega⟩)
    ks.length 0 M6 q5 qc5 es5 I5 O5 0 (by omega) (fun h0 => (ha h0).2.1) (h35.same b2 (by simp)) (by omega) (c5.same b2) (by omega) (fun e he => by rw [List.drop_zero]; exact b4 e he)
  have e7' : P3_100 LL A.length (n : Int) (some ⟨b, 0, none⟩) M2.length M3.length o6 ks.length oc6 0 0 M6 = _ := e7
  obtain ⟨M8, e8⟩ := call_end (n := n) c7 hall
  simp only
  rw [e7', e8]
  exact ⟨M8, rfl⟩

theorem holds_lay32 {A : AMem} {v : Value} (ha : HoldsV A (true, [.int .i64, .int .i64]) v) : ∃ p s, v = lay p s := by
  unfold HoldsV at ha
  rw [if_pos rfl] at ha
  obtain ⟨cs, rfl, ha⟩ := ha
  simp only [HoldsL, Holds] at ha
  obtain ⟨_, _, e0, ⟨p, rfl, _⟩, _, _, rfl, ⟨s, rfl, _⟩, rfl⟩ := ha
  refine ⟨p, s, ?_⟩
  have : cs = #[.int .i64 p, .int .i64 s] := by
    apply Array.toList_inj.1
    rw [e0]
  rw [this]

theorem call_main (A : AMem) (vs : List Value) (h : HoldsA A [(true, [.int .i64, .int .i64]), (false, [.int .u8]), (false, [.slice [.bool, .int .i64, .int .i64, .int .i64, .int .i64, .int .i64]])] vs) :
    ∃ A', (lim env).call 3 vs A = some (.bool true, A') := by
  obtain ⟨_, _, rfl, ha, _, _, rfl, hb, _, _, rfl, hc, rfl⟩ := h
  obtain ⟨p, s, rfl⟩ := holds_lay32 ha
  unfold HoldsV at hb
  rw [if_neg (by simp)] at hb
  obtain ⟨_, _, e, hb, h'⟩ := holdsL_cons hb
  cases e
  simp only [Holds] at hb
  obtain ⟨x1, rfl, hx⟩ := hb
  have b1 := bounds_u8 hx
  unfold HoldsV at hc
  rw [if_neg (by simp)] at hc
  obtain ⟨_, _, e, hc, h''⟩ := holdsL_cons hc
  cases e
  obtain ⟨w, l, rfl, k1, k2, k3⟩ := holds_listZ encT (fun _ => True) (by simp) hc fun cs hc => by
    simp only [HoldsL, Holds] at hc
    obtain ⟨_, _, rfl, ⟨x0, rfl⟩, _, _, rfl, ⟨x1, rfl, _⟩, _, _, rfl, ⟨x2, rfl, _⟩, _, _, rfl, ⟨x3, rfl, _⟩, _, _, rfl, ⟨x4, rfl, _⟩, _, _, rfl, ⟨x5, rfl, _⟩, rfl⟩ := hc
    exact ⟨⟨x0, x1, x2, x3, x4, x5⟩, trivial, rfl⟩
  have := call_law A p s x1 w l (by omega) k1 (fun h => k1.lt h)
  rw [LL_lim] at this
  exact this

theorem combineAll_lifted (os : Os) (started : os.Started) (H : Type) (enc : TypeId × Value → H) :
    ReturnsInHanded {} Try.checked os 3 .any (Rows.combineAllSpec.pre6 enc Try.prog Try.f3 Rows.combineAllRow.domain false) (Rows.combineAllSpec.post enc Try.prog Try.f3 false true false false) :=
  lifted_of_args (C := Try.checked) (E := env) (by kernel_rfl) started (by kernel_rfl) Try.func3
    (ChangeSpec.witness6 (enc := enc) (C := Try.checked) false ⟨#[], #[.agg #[.int .i64 0, .int .i64 0], .int .u8 0, .slice none 0 0], []⟩ 8 (by kernel_rfl) (by kernel_rfl) (by kernel_rfl) (by kernel_rfl))
    (by kernel_rfl) (by kernel_rfl) (by kernel_rfl : Try.f3.resultTypes = #[4]) (by kernel_rfl) rfl
    (fun ds hd => by
      match ds, hd with
      | [d1, d2, d3], _ => rfl) envOk (by kernel_rfl) (by kernel_rfl) call_main

theorem combineAll_holds : Rows.CombineAllSaid :=
  OpenClaim.holds_of_wide 3 Try.f3 rfl rfl rfl rfl rfl rfl rfl ⟨rfl, rfl, rfl, rfl, rfl⟩ rfl rfl rfl rfl rfl (by kernel_rfl) Try.func3 (by kernel_rfl)
    (of_decide_eq_true (by kernel_rfl)) (by unfold Func.isWrapper; rw [if_neg (of_decide_eq_false (by kernel_rfl))]; exact ⟨rfl, rfl⟩)
    (fun os started H enc _ => combineAll_lifted os started H enc)


end Go.Proofs.Ytjcmnchkgnmooaa
