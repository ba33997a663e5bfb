/- MipBack: the walk over the law. -/
import Derived.Test.YtncfdkmhpnopiaaMipY
import Derived.Test.YtncfdkmhpnopiaaMipD
import Derived.Test.YtncfdkmhpnopiaaMipO
import Derived.Test.YtncfdkmhpnopiaaMAwake
import Derived.Test.YtncfdkmhpnopiaaEqMBack
set_option linter.unusedVariables false
set_option linter.unusedSimpArgs false
namespace Go.Proofs.Ytncfdkmhpnopiaa
open Go Go.Ax

/-- What a pyramid is, place by place. -/
theorem pyr_get : ∀ (n W H : Nat) (l : List Px), W + H ≤ n → 1 ≤ W → 1 ≤ H → l.length = W * H → (∀ x ∈ l, x.fit) → W ≤ 256 → H ≤ 256 →
    (pyr W H l)[0]? = some (W, H, l) ∧ (∀ (i w h : Nat) (k : List Px), (pyr W H l)[i]? = some (w, h, k) → PFit (w : Int) (h : Int) k ∧ (∀ (w' h' : Nat) (k' : List Px), (pyr W H l)[i + 1]? = some (w', h', k') → w' = hf w ∧ h' = hf h) ∧ (i + 1 = (pyr W H l).length → w = 1 ∧ h = 1)) := by
  intro n
  induction n with
  | zero => intro W H l hn hW; omega
  | succ n ih =>
    intro W H l hn hW hH hl hfit bW bH
    rw [pyr_eq]
    refine ⟨rfl, ?_⟩
    have hpf : PFit (W : Int) (H : Int) l := ⟨hfit, by omega, by omega, by rw [hl, Int.natCast_mul]⟩
    by_cases hm : 1 < W ∨ 1 < H
    · rw [if_pos hm]
      obtain ⟨h0, h1⟩ := ih (hf W) (hf H) (halfL W H l) (by unfold hf; omega) (by unfold hf; omega) (by unfold hf; omega) (by simp [halfL]) (halfL_fit hfit) (by unfold hf; omega) (by unfold hf; omega)
      intro i w h k hi
      cases i with
      | zero =>
        simp only [List.getElem?_cons_zero, Option.some.injEq, Prod.mk.injEq] at hi
        obtain ⟨rfl, rfl, rfl⟩ := hi
        refine ⟨hpf, fun w' h' k' hk => ?_, fun he => ?_⟩
        · simp only [Nat.zero_add, List.getElem?_cons_succ] at hk
          rw [h0] at hk
          simp only [Option.some.injEq, Prod.mk.injEq] at hk
          exact ⟨hk.1.symm, hk.2.1.symm⟩
        · exfalso
          have := (List.getElem?_eq_some_iff.1 h0).1
          simp at he; rw [he] at this; simp at this
      | succ i =>
        simp only [List.getElem?_cons_succ] at hi
        obtain ⟨a, b, c⟩ := h1 i w h k hi
        refine ⟨a, fun w' h' k' hk => ?_, fun he => ?_⟩
        · simp only [List.getElem?_cons_succ] at hk
          exact b w' h' k' hk
        · simp at he; exact c he
    · rw [if_neg hm]
      intro i w h k hi
      cases i with
      | zero =>
        simp only [List.getElem?_cons_zero, Option.some.injEq, Prod.mk.injEq] at hi
        obtain ⟨rfl, rfl, rfl⟩ := hi
        exact ⟨hpf, fun w' h' k' hk => by simp at hk, fun _ => by omega⟩
      | succ i => simp at hi

theorem encT_ld {M : AMem} {a : Nat} {A : List Tp} (h : Rd M a (A.flatMap encT)) {i : Nat} {t : Tp} (hi : A[i]? = some t) :
    M.ld a (i * 3) = some (.int .i64 (t.W : Int)) ∧ M.ld a (i * 3 + 1) = some (.int .i64 (t.H : Int)) ∧ M.ld a (i * 3 + 2) = some (.slice t.p t.l.length t.c) := by
  refine ⟨?_, ?_, ?_⟩
  · have := flat_get encT_length A i 0 t hi (by omega)
    rw [Nat.add_zero] at this
    rw [h.ld, this]; rfl
  · rw [h.ld, flat_get encT_length A i 1 t hi (by omega)]; rfl
  · rw [h.ld, flat_get encT_length A i 2 t hi (by omega)]; rfl

theorem mk_end {a oc : Nat} {A : List Tp} (hA : 1 ≤ A.length ∧ A.length ≤ 65536) {M : AMem} (hr : Rd M a (A.flatMap encT)) {t : Tp} (ht : A[A.length - 1]? = some t) (h1 : t.W = 1 ∧ t.H = 1) :
    ∃ M', P4_67 LL (some ⟨a, 0, none⟩) A.length oc M = some (.bool true, M') := by
  obtain ⟨_, aw⟩ := awake51
  obtain ⟨e0, e1, _⟩ := encT_ld hr ht
  rw [h1.1] at e0
  rw [h1.2] at e1
  have m1 : IntKind.wrap .i64 (Int.ofNat A.length - 1) = ((A.length - 1 : Nat) : Int) := by rw [ofN, w64 (by omega)]; omega
  have hg : (0 : Int) ≤ ((A.length - 1 : Nat) : Int) ∧ ((A.length - 1 : Nat) : Int) < Int.ofNat A.length := by rw [ofN]; omega
  have k : (IntKind.wrap .i64 (((1 : Nat) : Int) * ((1 : Nat) : Int)) == 1) = true := by decide
  refine ⟨M, ?_⟩
  rw [P4_67_eq]
  simp only [m1, ↓if_pos hg, Int.toNat_natCast, Nat.zero_add, ↓bLI e0, ↓bLI e1, k, if_true, ↓ifT, ↓bX aw, ↓bB]

theorem mk_loop {a oc : Nat} {A : List Tp} (hA : 1 ≤ A.length ∧ A.length ≤ 65536) (hp : ∀ (i : Nat) (t : Tp), A[i]? = some t → PFit (t.W : Int) (t.H : Int) t.l ∧ (∀ t', A[i + 1]? = some t' → t'.W = hf t.W ∧ t'.H = hf t.H) ∧ (i + 1 = A.length → t.W = 1 ∧ t.H = 1)) :
    ∀ (d i : Nat) (M : AMem), i + d = A.length → 1 ≤ i → Rd M a (A.flatMap encT) → (∀ t ∈ A, RdL M encP t.p t.l.length t.l) →
      ∃ M', P4_50 LL (some ⟨a, 0, none⟩) A.length oc (i : Int) M = some (.bool true, M') := by
  intro d
  induction d with
  | zero =>
    intro i M hi h1 hr hpx
    obtain rfl : i = A.length := by omega
    obtain ⟨t, ht⟩ : ∃ t, A[A.length - 1]? = some t := ⟨_, List.getElem?_eq_getElem (by omega)⟩
    obtain ⟨M', h⟩ := mk_end (oc := oc) hA hr ht ((hp _ t ht).2.2 (by omega))
    refine ⟨M', ?_⟩
    rw [P4_50_eq LL L_loop, ifDn (show ¬ ((A.length : Int) < Int.ofNat A.length) by rw [ofN]; omega)]
    exact h
  | succ d ih =>
    intro i M hi h1 hr hpx
    have hiA : i < A.length := by omega
    obtain ⟨t, ht⟩ : ∃ t, A[i]? = some t := ⟨_, List.getElem?_eq_getElem hiA⟩
    obtain ⟨s, hs⟩ : ∃ s, A[i - 1]? = some s := ⟨_, List.getElem?_eq_getElem (by omega)⟩
    obtain ⟨e0, e1, e2⟩ := encT_ld hr ht
    obtain ⟨f0, f1, _⟩ := encT_ld hr hs
    have hst := (hp (i - 1) s hs).2.1 t (by rw [show i - 1 + 1 = i by omega]; exact ht)
    have hft := (hp i t ht).1
    have hfs := (hp (i - 1) s hs).1
    have m1 : IntKind.wrap .i64 ((i : Int) - 1) = ((i - 1 : Nat) : Int) := by rw [w64 (by omega)]; omega
    have g1 : (0 : Int) ≤ (i : Int) ∧ (i : Int) < Int.ofNat A.length := by rw [ofN]; omega
    have g2 : (0 : Int) ≤ ((i - 1 : Nat) : Int) ∧ ((i - 1 : Nat) : Int) < Int.ofNat A.length := by rw [ofN]; omega
    have hh : ∀ n : Nat, n ≤ 256 → IntKind.wrap .i64 (Int.tdiv (IntKind.wrap .i64 ((n : Int) + 1)) 2) = (hf n : Int) := fun n hn => by
      rw [w64 (n := (n : Int) + 1) (by omega), show (n : Int) + 1 = ((n + 1 : Nat) : Int) from rfl, show Int.tdiv ((n + 1 : Nat) : Int) 2 = (((n + 1) / 2 : Nat) : Int) from (Int.ofNat_tdiv (n + 1) 2).symm]
      exact w64 (by omega)
    have bs := hfs.2
    have c1 : (((t.W : Nat) : Int) != (hf s.W : Int)) = false := by rw [hst.1]; simp
    have c2 : (((t.H : Nat) : Int) != (hf s.H : Int)) = false := by rw [hst.2]; simp
    obtain ⟨M1, k1, s1⟩ := back51_spec (t.W : Int) (t.H : Int) t.p t.l.length t.c M
    unfold picV at k1
    have hpt := hpx t (List.mem_of_getElem? ht)
    have hlt := hft.len
    obtain ⟨M2, k2, s2⟩ := right41_spec (W := (t.W : Int)) (H := (t.H : Int)) (c := t.c) (by omega) (hpt.same s1 (by simp))
    unfold picV at k2
    rw [decide_eq_true hft] at k2
    have t2 : Same M M2 [] := (s1.trans s2).mono (by simp)
    obtain ⟨M', r⟩ := ih (i + 1) M2 (by omega) (by omega) (hr.same t2 (by simp)) (fun x hx => (hpx x hx).same t2 (by simp))
    refine ⟨M', ?_⟩
    have hwi : IntKind.wrap .i64 ((i : Int) + 1) = ((i + 1 : Nat) : Int) := by rw [w64 (by omega)]; rfl
    rw [P4_50_eq LL L_loop, ifD g1.2]
    simp only [↓if_pos g1, Int.toNat_natCast, Nat.zero_add, ↓bLI e0, m1, ↓if_pos g2, ↓bLI f0, hh s.W (by omega), c1, ↓ifF, ↓bLI e1, ↓bLI f1, hh s.H (by omega), c2, ↓bLS e2, ↓bX k1, ↓bA3, ↓bI0, ↓bI1, ↓bS2, ↓bX k2, ↓bB, Bool.not_true, P4_61_eq, P4_66_eq, hwi]
    exact r

theorem mk_31 {W H : Nat} (bW : 1 ≤ W ∧ W ≤ 256) (bH : 1 ≤ H ∧ H ≤ 256) {x3 : Nat} {p : Option Addr} {cp : Nat} {l : List Px} (hl : l.length = W * H) (hfit : ∀ x ∈ l, x.fit) {M : AMem} (a : IsPic M x3 (W : Int) (H : Int) p cp l) :
    ∃ M', P4_31 LL x3 false M = some (.bool true, M') := by
  have hl2 : l.length ≤ 65536 := by rw [hl]; exact (Nat.mul_le_mul bW.2 bH.2 : W * H ≤ 256 * 256)
  have hpf : PFit (W : Int) (H : Int) l := ⟨hfit, by omega, by omega, by rw [hl, Int.natCast_mul]⟩
  obtain ⟨a0, a1, a2⟩ := picV_ld a.hd
  obtain ⟨M1, e1, s1⟩ := of51_spec (W : Int) (H : Int) p l.length cp M
  unfold picV at e1
  obtain ⟨M2, o, oc, A, e2, o2, q2, m2, s2⟩ := (pyramid_spec (cp := cp) (by omega) (a.st s1).px).1 hpf
  unfold picV at e2
  simp only [Int.toNat_natCast] at m2
  have t2 : Same M M2 [] := (s1.trans s2).mono (by simp)
  have hlA : A.length = lev W H := by rw [← List.length_map (f := Tp.pic), m2, pyr_length]
  have hlev : lev W H = 1 + blen (max W H - 1) := lev_blen W H bW.1 bH.1
  have hble : blen (max W H - 1) ≤ 8 := blen_le (by omega)
  have hA1 : 1 ≤ A.length ∧ A.length ≤ 65536 := by omega
  obtain ⟨z, rfl, hz⟩ := o2.pos (by omega)
  obtain ⟨p0, p1⟩ := pyr_get (W + H) W H l (Nat.le_refl _) bW.1 bH.1 hl hfit bW.2 bH.2
  have hpic : ∀ (i : Nat) (t : Tp), A[i]? = some t → (pyr W H l)[i]? = some (t.W, t.H, t.l) := fun i t hi => by
    rw [← m2, List.getElem?_map, hi]; rfl
  have hp : ∀ (i : Nat) (t : Tp), A[i]? = some t → PFit (t.W : Int) (t.H : Int) t.l ∧ (∀ t', A[i + 1]? = some t' → t'.W = hf t.W ∧ t'.H = hf t.H) ∧ (i + 1 = A.length → t.W = 1 ∧ t.H = 1) := fun i t hi => by
    obtain ⟨h1, h2, h3⟩ := p1 i t.W t.H t.l (hpic i t hi)
    refine ⟨h1, fun t' ht' => h2 _ _ _ (hpic (i + 1) t' ht'), fun he => h3 ?_⟩
    rw [← m2, List.length_map]; exact he
  obtain ⟨t, ht⟩ : ∃ t, A[0]? = some t := ⟨_, List.getElem?_eq_getElem (by omega)⟩
  have ht0 := hpic 0 t ht
  rw [p0] at ht0
  simp only [Option.some.injEq, Prod.mk.injEq] at ht0
  obtain ⟨hW, hH, hLt⟩ := ht0
  obtain ⟨b0, b1, _⟩ := picV_ld (a.st t2).hd
  obtain ⟨_, l3⟩ := levels_spec (W : Int) (H : Int)
  have hR : (if (1 ≤ (W : Int) ∧ (W : Int) ≤ 256) ∧ (1 ≤ (H : Int) ∧ (H : Int) ≤ 256) then (lev (W : Int).toNat (H : Int).toNat : Int) else 0) = (lev W H : Int) := by rw [if_pos (by omega)]; rfl
  rw [hR] at l3
  obtain ⟨f0, f1, f2⟩ := encT_ld hz.rd ht
  rw [Nat.zero_mul] at f0 f1 f2
  rw [← hW] at f0
  rw [← hH] at f1
  rw [← hLt] at f2
  rw [Nat.zero_add] at f1 f2
  obtain ⟨M4, e4, s4⟩ := back51_spec (W : Int) (H : Int) t.p l.length t.c M2
  unfold picV at e4
  have t4 : Same M M4 [] := (t2.trans s4).mono (by simp)
  obtain ⟨c0, c1, c2⟩ := picV_ld (a.st t4).hd
  have hpt := q2 t (List.mem_of_getElem? ht)
  rw [← hLt] at hpt
  obtain ⟨M5, e5, s5⟩ := same41_spec (Wa := (W : Int)) (Ha := (H : Int)) (Wb := (W : Int)) (Hb := (H : Int)) (c := t.c) (d := cp) (by omega) (hpt.same s4 (by simp)) (a.st t4).px
  rw [show decide ((W : Int) = (W : Int) ∧ (H : Int) = (H : Int) ∧ l = l) = true by simp] at e5
  unfold picV at e5
  have t25 : Same M2 M5 [] := (s4.trans s5).mono (by simp)
  obtain ⟨M', r⟩ := mk_loop (oc := oc) hA1 hp (A.length - 1) 1 M5 (by omega) (Nat.le_refl _) (hz.rd.same t25 (by simp)) (fun x hx => (q2 x hx).same t25 (by simp))
  have hck : chkOk [(18, 17)] [(18, x3)] [(17, (M2, M4))] = true := by
    have v1 := ver_same s4 (a.st t2).lt (by simp)
    simp [chkOk, List.lookup, v1]
  have k1 : ((Int.ofNat A.length) == 0) = false := beq_eq_false_iff_ne.2 (by rw [ofN]; omega)
  have k2 : ((Int.ofNat A.length) != (lev W H : Int)) = false := by rw [ofN, hlA]; simp
  have k3 : (0 : Int) ≤ 0 ∧ 0 < Int.ofNat A.length := by rw [ofN]; omega
  refine ⟨M', ?_⟩
  rw [P4_31_eq, ifF]
  simp only [↓bLI a0, ↓bLI a1, ↓bLS a2, ↓bX e1, ↓bA3, ↓bI0, ↓bI1, ↓bS2, ↓bX e2, ↓bS, k1, ↓ifF, ↓bLI b0, ↓bLI b1, ↓bX l3, ↓bI, k2, ↓if_pos k3]
  simp only [Nat.zero_add, ↓bLI f0, ↓bLI f1, ↓bLS f2, ↓bX e4, ↓bA3, ↓bI0, ↓bI1, ↓bS2, ↓bLI c0, ↓bLI c1, ↓bLS c2, ↓bX e5, ↓bB, ↓if_pos hck, ↓ifNT]
  exact r

theorem mk_24 {W H w h : Nat} (bW : 1 ≤ W ∧ W ≤ 128) (bH : 1 ≤ H ∧ H ≤ 128) (hw : w = 2 * W ∨ w = 2 * W - 1) (hh : h = 2 * H ∨ h = 2 * H - 1) {x3 : Nat} {p : Option Addr} {cp : Nat} {l : List Px} (hl : l.length = W * H) (hfit : ∀ x ∈ l, x.fit) {M : AMem} (a : IsPic M x3 (W : Int) (H : Int) p cp l) :
    ∃ M', P4_24 LL x3 (w : Int) (h : Int) M = some (.bool true, M') := by
  have hl2 : l.length ≤ 65536 := by rw [hl]; have := (Nat.mul_le_mul bW.2 bH.2 : W * H ≤ 128 * 128); omega
  have hpf : PFit (W : Int) (H : Int) l := ⟨hfit, by omega, by omega, by rw [hl, Int.natCast_mul]⟩
  have ew : hf w = W := by unfold hf; omega
  have eh : hf h = H := by unfold hf; omega
  obtain ⟨a0, a1, a2⟩ := picV_ld a.hd
  obtain ⟨M1, e1, s1⟩ := of51_spec (W : Int) (H : Int) p l.length cp M
  unfold picV at e1
  obtain ⟨M2, o, oc, e2, o2, s2, ho⟩ := (double_spec (W := (W : Int)) (H := (H : Int)) (w := (w : Int)) (h := (h : Int)) (cp := cp) (by omega) (a.st s1).px).1 ⟨hpf, by omega, by omega, by rw [Int.toNat_natCast, ew], by rw [Int.toNat_natCast, eh]⟩
  unfold picV at e2
  simp only [Int.toNat_natCast] at e2 o2
  obtain ⟨M3, w1, w2, w3, w4⟩ := wr_new M2 [.int .i64 0, .int .i64 0, .slice none 0 0] [.int .i64 (w : Int), .int .i64 (h : Int), .slice o (w * h) oc] 0 rfl
  have t3 : Same M M3 [] := ((s1.trans s2).trans w3).mono (by simp)
  have hdl := dblL_length W w h l
  have D : IsPic M3 M2.length (w : Int) (h : Int) o oc (dblL W w h l) := ⟨by rw [hdl]; exact w2.rd, by rw [hdl]; exact o2.same w3 (by simp)⟩
  obtain ⟨b0, b1, b2⟩ := picV_ld (a.st t3).hd
  obtain ⟨M4, e4, s4⟩ := of51_spec (W : Int) (H : Int) p l.length cp M3
  unfold picV at e4
  have t4 : Same M M4 [] := (t3.trans s4).mono (by simp)
  have u1 : IntKind.wrap .i64 ((w : Int) + 2) = ((w + 2 : Nat) : Int) := by rw [w64 (by omega)]; rfl
  obtain ⟨M5, e5, s5⟩ := (double_spec (W := (W : Int)) (H := (H : Int)) (w := ((w + 2 : Nat) : Int)) (h := (h : Int)) (cp := cp) (by omega) (a.st t4).px).2 (fun hd => by
    have := hd.2.2.2.1
    rw [Int.toNat_natCast] at this
    unfold hf at this; omega)
  unfold picV at e5
  obtain ⟨M6, y1, y2, y3, y4⟩ := wr_new M5 [.int .i64 0, .int .i64 0, .slice none 0 0] [.int .i64 0, .int .i64 0, .slice none 0 0] 0 rfl
  have t36 : Same M3 M6 [] := ((s4.trans s5).trans y3).mono (by simp)
  have t6 : Same M M6 [] := (t3.trans t36).mono (by simp)
  have D6 := D.st t36
  obtain ⟨d0, d1, d2⟩ := picV_ld D6.hd
  rw [hdl] at d2
  have hdf : PFit (w : Int) (h : Int) (dblL W w h l) := ⟨dblL_fit hfit, by omega, by omega, by rw [hdl, Int.natCast_mul]⟩
  have hdle := hdf.len
  obtain ⟨M7, z, e7, z7, s7, _⟩ := (half_spec (W := (w : Int)) (H := (h : Int)) (cp := oc) (by omega) D6.px).1 hdf
  unfold picV at e7
  simp only [Int.toNat_natCast] at e7 z7
  rw [half_dbl bW.1 bH.1 hw hh hl] at z7
  rw [ew, eh, ← hl] at e7
  rw [hdl] at e7
  have t7 : Same M M7 [] := (t6.trans s7).mono (by simp)
  obtain ⟨M8, e8, s8⟩ := back51_spec (W : Int) (H : Int) (some ⟨z, 0, none⟩) l.length 3 M7
  unfold picV at e8
  have t8 : Same M M8 [] := (t7.trans s8).mono (by simp)
  obtain ⟨f0, f1, f2⟩ := picV_ld (a.st t8).hd
  obtain ⟨M9, e9, s9⟩ := same41_spec (Wa := (W : Int)) (Ha := (H : Int)) (Wb := (W : Int)) (Hb := (H : Int)) (c := 3) (d := cp) (by omega) (rdl_of (z7.same s8 (by simp))) (a.st t8).px
  rw [show decide ((W : Int) = (W : Int) ∧ (H : Int) = (H : Int) ∧ l = l) = true by simp] at e9
  unfold picV at e9
  have t9 : Same M M9 [] := (t8.trans s9).mono (by simp)
  have hck : chkOk [(21, 19), (21, 20)] [(21, x3)] [(20, (M7, M8)), (19, (M6, M7))] = true := by
    have v1 := ver_same s7 (a.st t6).lt (by simp)
    have v2 := ver_same s8 (a.st t7).lt (by simp)
    simp [chkOk, List.lookup, v1, v2]
  obtain ⟨M', r⟩ := mk_31 (by omega) (by omega) hl hfit (a.st t9)
  have c1 : ((w : Int) != (w : Int)) = false := by simp
  have c2 : ((h : Int) != (h : Int)) = false := by simp
  refine ⟨M', ?_⟩
  rw [P4_24_eq]
  simp only [↓bLI a0, ↓bLI a1, ↓bLS a2, ↓bX e1, ↓bA3, ↓bI0, ↓bI1, ↓bS2, ↓bX e2, ↓bT2, ↓bG0, ↓bG1, ↓bB, ↓bX w1, ↓bLI b0, ↓bLI b1, ↓bLS b2, ↓bX e4, u1, ↓bX e5, ↓bX y1]
  simp only [↓ifNT, ↓ifF, ↓bLI d0, c1, ↓bLI d1, c2, ↓bLS d2, ↓bX e7, ↓bA3, ↓bI0, ↓bI1, ↓bS2, ↓bX e8, ↓bLI f0, ↓bLI f1, ↓bLS f2, ↓bX e9, ↓bB, ↓if_pos hck, Bool.not_true]
  exact r

theorem mback51 (M : AMem) (W H : Int) (odd low : Bool) (p : Option Addr) (cp : Nat) (l : List Px) (hl : l.length ≤ 9223372036854775807) (hp : RdL M encP p l.length l) :
    ∃ M', LL.call 4 [picV W H p l.length cp, .bool odd, .bool low] M = some (.bool true, M') := by
  rw [L_call4]
  unfold picV
  rw [E4]
  obtain ⟨_, aw⟩ := awake51
  have g0 := cells_new M [.int .i64 W, .int .i64 H, .slice p l.length cp] 0
  have s0 := same_app M [AObj.cells [.int .i64 W, .int .i64 H, .slice p l.length cp] ⟨false, 0⟩]
  generalize hM0 : M ++ [AObj.cells [.int .i64 W, .int .i64 H, .slice p l.length cp] ⟨false, 0⟩] = M0 at g0 s0
  have a : IsPic M0 M.length W H p cp l := ⟨g0.rd, hp.same s0 (by simp)⟩
  obtain ⟨a0, a1, a2⟩ := picV_ld a.hd
  obtain ⟨M1, e1, s1⟩ := right41_spec (W := W) (H := H) (c := cp) hl a.px
  unfold picV at e1
  simp only [↓bLI a0, ↓bLI a1, ↓bLS a2, ↓bX e1, ↓bB]
  by_cases hf' : PFit W H l
  · have hft : decide (PFit W H l) = true := decide_eq_true hf'
    simp only [hft, ↓ifNT]
    have a' := a.st s1
    obtain ⟨b0, b1, b2⟩ := picV_ld a'.hd
    by_cases h40 : Int.ofNat l.length > 40
    · exact ⟨M1, by simp only [↓bLS b2, ↓ifD h40, ↓bX aw, ↓bB]⟩
    simp only [↓bLS b2, ↓ifDn h40, ↓bLI b0, ↓bLI b1]
    obtain ⟨f1, f2, f3, f4⟩ := hf'
    obtain ⟨W', rfl⟩ : ∃ n : Nat, W = (n : Int) := ⟨W.toNat, by omega⟩
    obtain ⟨H', rfl⟩ : ∃ n : Nat, H = (n : Int) := ⟨H.toNat, by omega⟩
    have hlen : l.length = W' * H' := by rw [← Int.natCast_mul] at f4; omega
    have h40' : W' * H' ≤ 40 := by rw [ofN] at h40; omega
    have hW40 : W' ≤ 40 := by have := Nat.mul_le_mul (Nat.le_refl W') (show 1 ≤ H' by omega); omega
    have hH40 : H' ≤ 40 := by have := Nat.mul_le_mul (show 1 ≤ W' by omega) (Nat.le_refl H'); omega
    have key : ∀ w h : Nat, (w = 2 * W' ∨ w = 2 * W' - 1) → (h = 2 * H' ∨ h = 2 * H' - 1) → ∃ M', P4_24 LL M.length (w : Int) (h : Int) M1 = some (.bool true, M') := fun w h hw hh => mk_24 (by omega) (by omega) hw hh hlen f1 a'
    have m1 : IntKind.wrap .i64 (2 * (W' : Int)) = ((2 * W' : Nat) : Int) := by rw [w64 (by omega)]; omega
    have m2 : IntKind.wrap .i64 (2 * (H' : Int)) = ((2 * H' : Nat) : Int) := by rw [w64 (by omega)]; omega
    have m3 : IntKind.wrap .i64 (((2 * W' : Nat) : Int) - 1) = ((2 * W' - 1 : Nat) : Int) := by rw [w64 (by omega)]; omega
    have m4 : IntKind.wrap .i64 (((2 * H' : Nat) : Int) - 1) = ((2 * H' - 1 : Nat) : Int) := by rw [w64 (by omega)]; omega
    rw [m1, m2, m3]
    have step : ∀ w : Nat, (w = 2 * W' ∨ w = 2 * W' - 1) → ∃ M', P4_18 LL low M.length (w : Int) ((2 * H' : Nat) : Int) M1 = some (.bool true, M') := fun w hw => by
      rw [P4_18_eq, m4]
      cases low with
      | true => rw [if_pos rfl]; exact key _ _ hw (.inr rfl)
      | false => rw [if_neg (by simp)]; exact key _ _ hw (.inl rfl)
    cases odd with
    | true => rw [if_pos rfl]; exact step _ (.inr rfl)
    | false => rw [if_neg (by simp)]; exact step _ (.inl rfl)
  · have hft : decide (PFit W H l) = false := decide_eq_false hf'
    exact ⟨M1, by simp only [hft, ↓ifNF, ↓bX aw, ↓bB]⟩

end Go.Proofs.Ytncfdkmhpnopiaa
