/- FlushOnce: what is wanted; the order; each by itself; the end. -/
import Derived.Test.YtmpgngilhhmlcaaFlushQ
import Derived.Test.YtmpgngilhhmlcaaFlushR
import Derived.Test.YtmpgngilhhmlcaaAwakeF
import Derived.Test.YtmpgngilhhmlcaaEqFOnce
set_option linter.unusedVariables false
set_option linter.unusedSimpArgs false
namespace Go.Proofs.Ytmpgngilhhmlcaa
open Go Go.Ax

/-! ### what is wanted -/

theorem want_in {q : Option Addr} {jn jc : Nat} {w : Option Addr} {wn wc : Nat} {x3 : Nat} {x7 x8 : Option Addr} {x8n x8c x9 n : Nat} {cnt i : Int} {x12 : Nat} {B : List (Int × Int)} {sz nx see lo : Int} {rd : Bool} {o : Option Addr} {oc : Nat} (hB : ∀ a ∈ B, 0 ≤ a.1 ∧ a.1 < (n : Int)) (hBl : B.length ≤ 1000000) (h912 : x9 ≠ x12) (ho : 0 < B.length → ∀ b ∈ blk o, b ≠ x9) :
    ∀ (d k : Nat) (M : AMem) (W : List Int) (A : List (Int × Int)), k + d = B.length → Rd M x12 [.int .i64 sz, .slice o B.length oc, .int .i64 nx, .bool rd, .int .u64 see, .int .i64 lo] → RdL M encA o B.length B → Cells M x9 (ints .u64 W) → WInv n W A →
    ∃ M' W', P3_44 LL q jn jc w wn wc x3 x7 x8 x8n x8c x9 n cnt i x12 (k : Int) M = P3_55 LL q jn jc w wn wc x3 x7 x8 x8n x8c x9 n cnt i M' ∧ Cells M' x9 (ints .u64 W') ∧ WInv n W' (A ++ B.drop k) ∧ Same M M' [x9] := by
  intro d
  induction d with
  | zero =>
    intro k M W A hk h12 hb hc hw
    have s1 : M.ld x12 1 = some (.slice o B.length oc) := h12.ld 1
    refine ⟨M, W, ?_, hc, ?_, .refl _ _⟩
    · rw [P3_44_eq LL L_loop, bLS s1]
      simp only [ofN]
      rw [ifDn (by omega)]
    · rw [List.drop_eq_nil_of_le (by omega), List.append_nil]; exact hw
  | succ d ih =>
    intro k M W A hk h12 hb hc hw
    have s1 : M.ld x12 1 = some (.slice o B.length oc) := h12.ld 1
    have hkl : k < B.length := by omega
    obtain ⟨z, rfl, hz⟩ := hb.2 (by omega)
    obtain ⟨a, hak⟩ : ∃ a, B[k]? = some a := ⟨_, List.getElem?_eq_getElem hkl⟩
    obtain ⟨e0, e1⟩ := add_ld hz hak
    have ha := hB a (List.mem_of_getElem? hak)
    obtain ⟨ai, hai⟩ : ∃ ai : Nat, a.1 = (ai : Int) := ⟨a.1.toNat, by omega⟩
    have hain : ai < n := by omega
    have hWl := hw.1
    have hg : (0 : Int) ≤ (k : Int) ∧ (k : Int) < Int.ofNat B.length := by rw [ofN]; omega
    have hg2 : (0 : Int) ≤ a.1 ∧ a.1 < Int.ofNat n := by rw [ofN]; exact ha
    have hld : M.ld x9 ai = some (.int .u64 (W.getD ai 0)) := by rw [hc.ld, ints_nat (by omega)]
    have hw1 : IntKind.wrap .i64 ((k : Int) + 1) = ((k + 1 : Nat) : Int) := by rw [w64 (by omega)]; rfl
    obtain ⟨M1, w1, w2, w3, w4⟩ := hc.wr (o := ai) (vs := [.int .u64 (IntKind.wrap .u64 (W.getD ai 0 + a.2))]) (by simp; omega)
    rw [wrL_ints] at w2
    have hai' : a.1.toNat = ai := by omega
    have hd : B.drop k = a :: B.drop (k + 1) := by rw [List.drop_eq_getElem_cons hkl]; congr 1; exact (List.getElem?_eq_some_iff.1 hak).2
    obtain ⟨M', W', k1, k2, k3, k4⟩ := ih (k + 1) M1 _ _ (by omega) (h12.same w3 (by simp; exact Ne.symm h912)) (hb.same w3 (fun b hb => by simp; exact ho (by omega) b hb)) w2 (winv_add hw hai hain)
    refine ⟨M', W', ?_, k2, ?_, (w3.trans k4).mono (by simp)⟩
    · rw [P3_44_eq LL L_loop, bLS s1, ifD hg.2]
      simp only [↓bLS s1, ↓if_pos hg, Nat.zero_add, Nat.mul_one, Int.toNat_natCast, ↓bLI e0, ↓bLI e1, ↓if_pos hg2, hai', ↓bLI hld, ↓bX w1]
      rw [P3_54_eq, hw1]
      exact k1
    · rw [hd]; simpa using k3

theorem want_loop {N : Nat} {p s : Int} {q : Option Addr} {js : List Jb} {qc : Nat} {w : Option Addr} {wn wc : Nat} {x3 : Nat} {x7 x8 : Option Addr} {x8n x8c x9 : Nat} (hes : ∀ j ∈ js, j.es.length ≤ 1000) (hl : js.length ≤ 100) (hN : N ≤ x9) (h3 : x3 ≠ x9) :
    ∀ (d i cnt : Nat) (M : AMem) (W : List Int) (A : List (Int × Int)), i + d = js.length → cnt ≤ i → Jobs N M q js → Rd M x3 [.int .i64 p, .int .i64 s] → Cells M x9 (ints .u64 W) → WInv (szN p s) W A →
    ∃ M' W', P3_22 LL q js.length qc w wn wc x3 x7 x8 x8n x8c x9 (szN p s) (cnt : Int) (i : Int) M = P3_56 LL w wn wc x7 x8 x8n x8c x9 (szN p s) ((cnt + (mk33 p s (js.drop i)).length : Nat) : Int) M' ∧ Cells M' x9 (ints .u64 W') ∧ WInv (szN p s) W' (A ++ ((mk33 p s (js.drop i)).map FS.adds).flatten) ∧ Same M M' [x9] := by
  intro d
  induction d with
  | zero =>
    intro i cnt M W A hi hcnt hj h3r hc hw
    refine ⟨M, W, ?_, hc, ?_, .refl _ _⟩
    · rw [P3_22_eq LL L_loop, ifDn (by rw [ofN]; omega), List.drop_eq_nil_of_le (by omega)]
      simp [mk33]
    · rw [List.drop_eq_nil_of_le (by omega)]; simpa [mk33] using hw
  | succ d ih =>
    intro i cnt M W A hi hcnt hj h3r hc hw
    have hil : i < js.length := by omega
    obtain ⟨j, hji⟩ : ∃ j, js[i]? = some j := ⟨_, List.getElem?_eq_getElem hil⟩
    have hjm := List.mem_of_getElem? hji
    have hg : (0 : Int) ≤ (i : Int) ∧ (i : Int) < Int.ofNat js.length := by rw [ofN]; omega
    have hw1 : IntKind.wrap .i64 ((i : Int) + 1) = ((i + 1 : Nat) : Int) := by rw [w64 (by omega)]; rfl
    have hd : js.drop i = j :: js.drop (i + 1) := by rw [List.drop_eq_getElem_cons hil]; congr 1; exact (List.getElem?_eq_some_iff.1 hji).2
    have s1 := same_app M [AObj.cells [.int .i64 0, .slice none 0 0, .int .i64 0, .bool false, .int .u64 0, .int .i64 0] ⟨false, 0⟩]
    have g1 := cells_new M [.int .i64 0, .slice none 0 0, .int .i64 0, .bool false, .int .u64 0, .int .i64 0] 0
    have l1 : (M ++ [AObj.cells [.int .i64 0, .slice none 0 0, .int .i64 0, .bool false, .int .u64 0, .int .i64 0] ⟨false, 0⟩]).length = M.length + 1 := by simp
    have hc9 := hc.lt
    rw [P3_22_eq LL L_loop, ifD hg.2]
    generalize M ++ [AObj.cells [.int .i64 0, .slice none 0 0, .int .i64 0, .bool false, .int .u64 0, .int .i64 0] ⟨false, 0⟩] = M1 at s1 g1 l1 ⊢
    obtain ⟨z, rfl, hz, l0, l1'⟩ := (hj.same s1 (by simp)).ld hji
    have h31 := h3r.same s1 (by simp)
    have y0 : M1.ld x3 0 = some (.int .i64 p) := h31.ld 0
    have y1 : M1.ld x3 1 = some (.int .i64 s) := h31.ld 1
    have hn := rnew33 (p := p) (s := s) (st := j.st) (es := j.es) (qc := 0) ((hj.same s1 (by simp)).es j hjm).1
    simp only [↓if_pos hg, Nat.zero_add, Int.toNat_natCast, ↓bLI y0, ↓bLI y1, ↓bLI l0, ↓bLS l1']
    by_cases hok : FlOk p s j.st j.es
    · obtain ⟨M2, o, oc, e1, e2, e3, e4⟩ := hn.1 hok
      have hmk : mk33 p s (js.drop i) = flNew p s j.st j.es :: mk33 p s (js.drop (i + 1)) := by rw [hd]; simp [mk33, okJ, hok]
      have hchk : chkOk [(15, 11)] [(15, M.length)] [(11, (M1, M2))] = true := by simp [chkOk, List.lookup, ver_same e3 g1.lt (by simp)]
      have g2 := g1.same e3 (by simp)
      obtain ⟨M3, v1, v2, v3, v4⟩ := g2.wr (o := 0) (vs := [.int .i64 (1 + 2 * s + 3 * p), .slice o (flAdds s j.st j.es).length oc, .int .i64 ((flAdds s j.st j.es).length : Nat), .bool false, .int .u64 0, .int .i64 0]) (by simp)
      have v2' : Cells M3 M.length [.int .i64 (1 + 2 * s + 3 * p), .slice o (flAdds s j.st j.es).length oc, .int .i64 ((flAdds s j.st j.es).length : Nat), .bool false, .int .u64 0, .int .i64 0] := by simpa [wrL] using v2
      have t3 : Same M M3 [] := ((s1.trans e3).trans v3).mono' (fun b hb hl => by simp at hb; omega)
      have el := esAdds_len s j.es
      have hjes := hes j hjm
      obtain ⟨M4, W4, b1, b2, b3, b4⟩ := want_in (q := some ⟨z, 0, none⟩) (jn := js.length) (jc := qc) (w := w) (wn := wn) (wc := wc) (x3 := x3) (x7 := x7) (x8 := x8) (x8n := x8n) (x8c := x8c) (x9 := x9) (n := szN p s) (cnt := ((cnt + 1 : Nat) : Int)) (i := (i : Int)) (x12 := M.length) (B := flAdds s j.st j.es)
        (flNew_good hok).ad (by simp only [flAdds, List.length_cons, List.length_append, List.length_nil]; omega) (by omega) (fun _ b hb => by have := e4 b hb; omega) (flAdds s j.st j.es).length 0 M3 W A (by omega) v2'.rd (e2.same v3 (fun b hb => by have := e4 b hb; simp; omega)) (hc.same t3 (by simp)) hw
      rw [List.drop_zero] at b3
      have t4 : Same M M4 [x9] := (t3.trans b4).mono (by simp)
      obtain ⟨M', W', k1, k2, k3, k4⟩ := ih (i + 1) (cnt + 1) M4 W4 _ (by omega) (by omega) (hj.same t4 (by simpa using hN)) (h3r.same t4 (by simpa using h3)) b2 b3
      refine ⟨M', W', ?_, k2, ?_, (t4.trans k4).mono (by simp)⟩
      · rw [bX e1, bT2, bG0]
        have hwc : IntKind.wrap .i64 ((cnt : Int) + 1) = ((cnt + 1 : Nat) : Int) := by rw [w64 (by omega)]; rfl
        rw [bA6, bI0, bS1, bI2, bB3, bI4, bI5, bG1, bB, bX v1, if_pos hchk, P3_33_eq, Bool.not_true, ifF, hwc]
        rw [show (0 : Int) = ((0 : Nat) : Int) from rfl, b1, P3_55_eq, hw1, k1, hmk, List.length_cons]
        congr 2
        omega
      · rw [hmk]; simpa [flNew] using k3
    · obtain ⟨M2, e1, e3⟩ := hn.2 hok
      have hmk : mk33 p s (js.drop i) = mk33 p s (js.drop (i + 1)) := by rw [hd]; simp [mk33, okJ, hok]
      have hchk : chkOk [(15, 11)] [(15, M.length)] [(11, (M1, M2))] = true := by simp [chkOk, List.lookup, ver_same e3 g1.lt (by simp)]
      have g2 := g1.same e3 (by simp)
      obtain ⟨M3, v1, _, _, _, _, _, _, v3⟩ := zw g2 rfl
      have t3 : Same M M3 [] := ((s1.trans e3).trans v3).mono' (fun b hb hl => by simp at hb; omega)
      obtain ⟨M', W', k1, k2, k3, k4⟩ := ih (i + 1) cnt M3 W _ (by omega) (by omega) (hj.same t3 (by simp)) (h3r.same t3 (by simp)) (hc.same t3 (by simp)) hw
      refine ⟨M', W', ?_, k2, ?_, (t3.trans k4).mono (by simp)⟩
      · rw [bX e1, zTup, bT2, bG0, bA6, bI0, bS1, bI2, bB3, bI4, bI5, bG1, bB, bX v1, if_pos hchk, P3_33_eq, Bool.not_false, ifT, P3_55_eq, hw1, k1, hmk]
      · rw [hmk]; exact k3

end Go.Proofs.Ytmpgngilhhmlcaa
