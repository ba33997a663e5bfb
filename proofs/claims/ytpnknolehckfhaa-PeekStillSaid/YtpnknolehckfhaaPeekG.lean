/- Flushes, one behind the other: what is there in the end. -/
import Derived.Test.YtpnknolehckfhaaCntP
import Derived.Test.YtpnknolehckfhaaEqPStill
set_option linter.unusedVariables false
set_option linter.unusedSimpArgs false
namespace Go.Proofs.Ytpnknolehckfhaa
open Go Go.Ax

theorem begun_nil' (M : AMem) : LL.call 32 [.pointer none] M = some (.bool false, M) := by
  rw [L_call32, E32]
  simp

theorem step_nil' (M : AMem) (b : Nat) : LL.call 18 [.pointer none, pt b] M = some (.bool false, M) := by
  rw [L_call18, E18, bX (left_nil M), bI]
  rfl

theorem still_alone {n f : Nat} {fo : Option Addr} {fc mb ma : Nat} (hd : f ≠ mb ∧ f ≠ ma ∧ ∀ x ∈ blk fo, x ≠ mb ∧ x ≠ ma) {x1 : Int} {x2 : Option Addr} {x2n x2c : Nat} {x3 : Int} {x4 : Nat} {u : Bool} {x11 : Int} {nB : Nat} (hB : nB ≤ 1000) {D : List Fl} {C T : Nat} (hC : C < 1000) (hT : T ≤ 100000) :
    ∀ (d k : Nat) (M : AMem) (L : List Int) (st wi : Nat) (s : FS), k + d = nB → IsFl M f fo fc s → IsMem M mb ma L st wi → Good n s → OInv n L (D ++ [⟨f, fo, fc, s⟩]) → cost L s + k ≤ C → st ≤ T + k → wi ≤ T + k → s.lost ≤ k →
    ∃ M' L' st' wi' s', P5_41 LL x1 x2 x2n x2c x3 x4 (some ⟨mb, 0, none⟩) u x11 (some ⟨f, 0, none⟩) (nB : Int) (k : Int) M = P5_52 LL x1 x2 x2n x2c x3 x4 (some ⟨mb, 0, none⟩) u x11 (some ⟨f, 0, none⟩) M' ∧
      IsFl M' f fo fc s' ∧ IsMem M' mb ma L' st' wi' ∧ Good n s' ∧ OInv n L' (D ++ [⟨f, fo, fc, s'⟩]) ∧ s'.adds = s.adds ∧ st' ≤ T + 1000 ∧ wi' ≤ T + 1000 ∧ (nB = 1000 → s'.nx = s'.adds.length) ∧ Same M M' [f, mb, ma] := by
  intro d
  induction d with
  | zero =>
    intro k M L st wi s hk hf hm hg hO hc hst hwi hlo
    rw [P5_41_eq LL L_loop, ifDn (by omega)]
    exact ⟨M, L, st, wi, s, rfl, hf, hm, hg, hO, rfl, by omega, by omega, fun h => by omega, .refl _ _⟩
  | succ d ih =>
    intro k M L st wi s hk hf hm hg hO hc hst hwi hlo
    have hLn : L.length = n := hO.1
    have hg' : Good L.length s := by rw [hLn]; exact hg
    obtain ⟨M1, a1, a2, a3, a4⟩ := fl_step hf hm (by omega) (by omega) (by omega) hd
    have q1 := fT_le L s
    have q2 := fW_le L s
    have q3 := fLo_le L s
    have hO1 := hO.last hg
    have hg1 : Good n (fS L s) := by have := hg'.step; rw [fL_length, hLn] at this; exact this
    have hw : IntKind.wrap .i64 ((k : Int) + 1) = ((k + 1 : Nat) : Int) := by rw [w64 (by omega)]; rfl
    rw [P5_41_eq LL L_loop, ifD (by omega), bX a1, bB]
    by_cases ho : fOver L s = true
    · rw [ho]
      rw [show (!true) = false from rfl, ifF]
      refine ⟨M1, _, _, _, _, rfl, a2, a3, hg1, hO1, fS_adds L s, by omega, by omega, fun _ => ?_, a4⟩
      have : fS L s = s := by unfold fS; rw [if_pos ho]
      rw [this]
      have h2 := hg'.over
      rw [ho] at h2
      exact (of_decide_eq_true h2.symm).symm
    · have hn : s.nx < s.adds.length := by
        have h2 := hg'.over
        have h3 := hg.nx
        rw [show fOver L s = false by simpa using ho] at h2
        have := of_decide_eq_false h2.symm
        omega
      have hcs := cost_step hg' hn
      rw [show fOver L s = false by simpa using ho, show (!false) = true from rfl, ifT, P5_51_eq, hw]
      obtain ⟨M', L', st', wi', s', e, b1, b2, b3, b4, b5, b6, b7, b8, b9⟩ := ih (k + 1) M1 _ _ _ _ (by omega) a2 a3 hg1 hO1 (by omega) (by omega) (by omega) (by rw [fS_lost L s hg']; omega)
      exact ⟨M', L', st', wi', s', e, b1, b2, b3, b4, by rw [b5, fS_adds], b6, b7, b8, (a4.trans b9).mono (by simp)⟩

/-- What is there when all have had their steps. -/
structure Fin' (n S : Nat) (M : AMem) (mb ma : Nat) (u : Bool) : Prop where
  ex : ∃ L st wi, IsMem M mb ma L st wi ∧ L.length = n ∧ st ≤ 100000 ∧ (u = false → ∀ t, t < S → L.getD (1 + t) 0 = L.getD (1 + S + t) 0) ∧ (u = true → ∃ t, t < S ∧ L.getD (1 + t) 0 ≠ L.getD (1 + S + t) 0)

theorem still_jobs {N S : Nat} {p s : Int} {q : Option Addr} {js : List Jb} {x1 x3 : Int} {x4 mb ma : Nat} (hS : s = (S : Int)) (hR : Rt p s) (hl : js.length ≤ 6) (hes : ∀ j ∈ js, j.es.length ≤ 24) (h3 : 0 ≤ x3 ∧ x3 ≤ 255) (hN : N ≤ mb ∧ N ≤ ma ∧ x4 < N) :
    ∀ (d i : Nat) (M : AMem) (L : List Int) (st wi : Nat) (D : List Fl), i + d = js.length → Jobs N M q js → Rd M x4 [.int .i64 p, .int .i64 s] → IsMem M mb ma L st wi → OInv (szN p s) L D → (∀ x ∈ D, ∃ st es, Jo p s x.s st es) → (∀ x ∈ D, x.s.nx = 0 ∨ x.s.nx = x.s.adds.length) → st ≤ 1000 * i → wi ≤ 1000 * i → N ≤ M.length →
    ∃ M' u, P5_18 LL x1 q js.length 0 x3 x4 (some ⟨mb, 0, none⟩) false i M = P5_54 LL x1 x4 (some ⟨mb, 0, none⟩) u M' ∧ Fin' (szN p s) S M' mb ma u ∧ Rd M' x4 [.int .i64 p, .int .i64 s] ∧ N ≤ M'.length := by
  have hR' := hR
  obtain ⟨r1, r2, r3, r4⟩ := hR'
  have hn : 2 * S < szN p s := by unfold szN; omega
  intro d
  induction d with
  | zero =>
    intro i M L st wi D hi hj h2 hm hO hJ hq hst hwi hNM
    rw [P5_18_eq LL L_loop, ifDn (by rw [ofN]; omega)]
    exact ⟨M, false, rfl, ⟨L, st, wi, hm, hO.1, by omega, fun _ t ht => quiet_eq hO hJ hq hS hn ht, fun h => by cases h⟩, h2, hNM⟩
  | succ d ih =>
    intro i M L st wi D hi hjb h2 hm hO hJ hq hst hwi hNM
    have hil : i < js.length := by omega
    obtain ⟨j, hj⟩ : ∃ j, js[i]? = some j := ⟨_, List.getElem?_eq_getElem hil⟩
    have hjm := List.mem_of_getElem? hj
    have hj24 := hes j hjm
    obtain ⟨z, rfl, hz, l0, l1⟩ := hjb.ld hj
    have hg : (0 : Int) ≤ (i : Int) ∧ (i : Int) < Int.ofNat js.length := by rw [ofN]; omega
    have hw : IntKind.wrap .i64 ((i : Int) + 1) = ((i + 1 : Nat) : Int) := by rw [w64 (by omega)]; rfl
    have hwl : IntKind.wrap .i64 (Int.ofNat js.length - 1) = ((js.length - 1 : Nat) : Int) := by rw [ofN, w64 (by omega)]; omega
    have hw3 : IntKind.wrap .i64 x3 = ((x3.toNat : Nat) : Int) := by rw [w64 (by omega)]; omega
    have y0 : M.ld x4 0 = some (.int .i64 p) := h2.ld 0
    have y1 : M.ld x4 1 = some (.int .i64 s) := h2.ld 1
    obtain ⟨_, k⟩ := lay33_spec p s
    obtain ⟨M1, e1, e1c, a1, a2, a3, a4⟩ := of33_spec (qc := 0) (hjb.es j hjm).1 (by omega)
    have hzl := hz.lt
    have hchk : chkOk [(6, 12)] [(6, z)] [(12, (M, M1))] = true := by simp [chkOk, List.lookup, ver_same a3 hzl (by simp)]
    have hfn := fnew_spec (p := p) (s := s) (st := j.st) (es := j.es) (qc := e1c) a2 (by omega)
    have le1 := a3.le
    -- how many steps it has
    obtain ⟨nB, hnB, hB1, hB2⟩ : ∃ nB : Nat, (∀ (f : Option Addr) (M : AMem), P5_29 LL x1 (some ⟨z, 0, none⟩) js.length 0 x3 x4 (some ⟨mb, 0, none⟩) false i f M = P5_41 LL x1 (some ⟨z, 0, none⟩) js.length 0 x3 x4 (some ⟨mb, 0, none⟩) false i f (nB : Int) 0 M) ∧ nB ≤ 1000 ∧ (d ≠ 0 → nB = 1000) := by
      by_cases hlast : i = js.length - 1
      · refine ⟨x3.toNat, fun f M => ?_, by omega, fun h => by omega⟩
        rw [P5_29_eq, hwl, show ((i : Int) == ((js.length - 1 : Nat) : Int)) = true by simp; omega, ifT, P5_37_eq, hw3]
      · refine ⟨1000, fun f M => ?_, by omega, fun _ => rfl⟩
        rw [P5_29_eq, hwl, show ((i : Int) == ((js.length - 1 : Nat) : Int)) = false by simp; omega, ifF, P5_37_eq]
        rfl
    rw [P5_18_eq LL L_loop, ifD hg.2, bLI y0, bLI y1, bX k]
    simp only [↓if_pos hg, Nat.zero_add, Int.toNat_natCast, agg2, Option.bind_some, get0, get1, intOf_int, ↓bLI l0, ↓bLS l1, ↓bX a1, ↓bS]
    by_cases hok : FlOk p s j.st j.es
    · obtain ⟨M2, f, fo, fc, b1, b2, b3, b4, b5⟩ := hfn.1 hok
      have t2 : Same M M2 [] := (a3.trans b3).mono (by simp)
      have hm2 := hm.same t2 (by simp) (by simp)
      have hmlt : mb < M.length ∧ ma < M.length := ⟨hm.hd.lt, hm.cs.lt⟩
      have hcost : cost L (flNew p s j.st j.es) ≤ 200 := by
        have h1 := (cost_le L (flNew p s j.st j.es)).1
        have h2 := esAdds_len s j.es
        have h3 : (flNew p s j.st j.es).adds.length = (j.es.flatMap (enAdds s)).length + 2 := by simp [flNew, flAdds]
        omega
      obtain ⟨M3, L', st', wi', s', e, c1, c2, c3, c4, c5, c6, c7, c8, c9⟩ := still_alone (n := szN p s) (f := f) (fo := fo) (fc := fc) (mb := mb) (ma := ma) ⟨by omega, by omega, fun x hx => by have := b5 x hx; omega⟩ (x1 := x1) (x2 := some ⟨z, 0, none⟩) (x2n := js.length) (x2c := 0) (x3 := x3) (x4 := x4) (u := false) (x11 := (i : Int)) hB1 (D := D) (C := 200) (T := 1000 * i) (by omega) (by omega)
        nB 0 M2 L st wi _ (by omega) b2 hm2 (flNew_good hok) (hO.addz _ rfl) (by omega) (by omega) (by omega) (Nat.zero_le _)
      have hJo : Jo p s s' j.st j.es := ⟨hok, by rw [c5]; rfl, c1.nx⟩
      have hJ' : ∀ x ∈ D ++ [(⟨f, fo, fc, s'⟩ : Fl)], ∃ st es, Jo p s x.s st es := fun x hx => by
        rcases List.mem_append.1 hx with hx | hx
        · exact hJ x hx
        · simp only [List.mem_singleton] at hx
          subst hx
          exact ⟨_, _, hJo⟩
      have hS3 : Same M M3 [f, mb, ma] := (t2.trans c9).mono (by simp)
      have hge : ∀ b ∈ [f, mb, ma], N ≤ b := fun b hb => by
        simp only [List.mem_cons, List.not_mem_nil, or_false] at hb; omega
      have h23 : Rd M3 x4 [.int .i64 p, .int .i64 s] := h2.same hS3 (fun hb => by have := hge _ hb; omega)
      have le3 := hS3.le
      have hu : ∃ u', P5_52 LL x1 (some ⟨z, 0, none⟩) js.length 0 x3 x4 (some ⟨mb, 0, none⟩) false i (some ⟨f, 0, none⟩) M3 = P5_53 LL x1 (some ⟨z, 0, none⟩) js.length 0 x3 x4 (some ⟨mb, 0, none⟩) u' i M3 ∧ u' = decide (0 < s'.nx ∧ s'.adds.length ≠ s'.nx) := by
        rw [P5_52_eq, ifF, bX (begun_spec' c1), bB]
        by_cases hb : 0 < s'.nx
        · rw [decide_eq_true hb, ifT, bX (done_spec c1), bB]
          refine ⟨_, rfl, ?_⟩
          by_cases hd : s'.adds.length = s'.nx
          · rw [decide_eq_true hd, decide_eq_false (fun h => h.2 hd)]; rfl
          · rw [decide_eq_false hd, decide_eq_true ⟨hb, hd⟩]; rfl
        · rw [decide_eq_false hb, ifF]
          exact ⟨_, rfl, (decide_eq_false fun h => hb h.1).symm⟩
      obtain ⟨u', hu1, hu2⟩ := hu
      rw [bX b1, bP, if_pos hchk, hnB, show (0 : Int) = ((0 : Nat) : Int) from rfl, e, hu1, P5_53_eq, hw]
      by_cases hp : 0 < s'.nx ∧ s'.adds.length ≠ s'.nx
      · have hd0 : d = 0 := by
          by_cases hd : d = 0
          · exact hd
          · exact absurd (c8 (hB2 hd)).symm hp.2
        rw [hu2, decide_eq_true hp, P5_18_eq LL L_loop, ifDn (by rw [ofN]; omega)]
        exact ⟨M3, true, rfl, ⟨L', st', wi', c2, c4.1, by omega, (fun h => by cases h), fun _ => under_ne c4 hJ hq hS hn hJo hp.1 (fun h => hp.2 h.symm)⟩, h23, by omega⟩
      · rw [hu2, decide_eq_false hp]
        exact ih (i + 1) M3 L' st' wi' _ (by omega) (hjb.same hS3 hge) h23 c2 c4 hJ' (fun x hx => by
          rcases List.mem_append.1 hx with hx | hx
          · exact hq x hx
          · simp only [List.mem_singleton] at hx
            subst hx
            simp only
            omega) (by omega) (by omega) (by omega)
    · obtain ⟨M2, b1, b2⟩ := hfn.2 hok
      have t2 : Same M M2 [] := (a3.trans b2).mono (by simp)
      have le2 := t2.le
      rw [bX b1, bP, if_pos hchk, hnB]
      have h41 : P5_41 LL x1 (some ⟨z, 0, none⟩) js.length 0 x3 x4 (some ⟨mb, 0, none⟩) false i none (nB : Int) 0 M2 = P5_52 LL x1 (some ⟨z, 0, none⟩) js.length 0 x3 x4 (some ⟨mb, 0, none⟩) false i none M2 := by
        rw [P5_41_eq LL L_loop]
        by_cases h0 : (0 : Int) < (nB : Int)
        · have sn := step_nil' M2 mb
          rw [ifD h0, bX sn, bB, ifF]
        · rw [ifDn h0]
      rw [h41, P5_52_eq, ifF, bX (begun_nil' M2), bB, ifF, P5_53_eq, hw]
      exact ih (i + 1) M2 L st wi D (by omega) (hjb.same t2 (by simp)) (h2.same t2 (by simp)) (hm.same t2 (by simp) (by simp)) hO hJ hq (by omega) (by omega) (by omega)

end Go.Proofs.Ytpnknolehckfhaa
