/- WorkerPlays: whatever workers do in whatever order, what each step was, whether they are done, their flushes, what was lost, and all cells are the document's: for layouts of up to 12 pixels and 4 stripes (or that may not be), up to 12 particles of up to 24 splats together, up to 4 workers, up to 200 steps; else the example alone -/
import Derived.Test.YtbclhglmdhojdaaGreatZwF
set_option linter.unusedVariables false
set_option linter.unusedSimpArgs false
set_option maxRecDepth 100000
namespace Go.Proofs.YtbclhglmdhojdaaGreat
open Go Go.Ax
theorem bA8 {β : Type} (a b c d e f g h : Value) (k : List Value → Option β) : Option.bind (aggOf? 8 (.agg #[a, b, c, d, e, f, g, h])) k = k [a, b, c, d, e, f, g, h] := rfl
theorem bI5' {β : Type} (k : IntKind) (x y z w v : Value) (a : Int) (l : List Value) (f : Int → Option β) : Option.bind (intOf? k ((x :: y :: z :: w :: v :: .int k a :: l)[5]?)) f = f a := bI k a f
theorem bI6 {β : Type} (k : IntKind) (x y z w v u : Value) (a : Int) (l : List Value) (f : Int → Option β) : Option.bind (intOf? k ((x :: y :: z :: w :: v :: u :: .int k a :: l)[6]?)) f = f a := bI k a f
theorem bI7 {β : Type} (k : IntKind) (x y z w v u t : Value) (a : Int) (l : List Value) (f : Int → Option β) : Option.bind (intOf? k ((x :: y :: z :: w :: v :: u :: t :: .int k a :: l)[7]?)) f = f a := bI k a f
section
variable {k N : Nat} {P : WP} {tp : Option Addr} {tr : List Row} {rb o : Nat} {A Z : List Value} {mr : Nat} {p : Option Addr} {c n : Nat} {ρ ρ' : Cl} {M M' : AMem} {D D' : DB} {σ σ' : WS} {L : List Int} {st wi : Nat}
theorem d_tell {x4 : Nat} {cs : List Value} {R : WR} (hk : k ≠ 0 ∧ k ≠ 1) {wi' : Nat} {res : Res} (hI : IsD ρ' k N P tp M' rb o A Z D' R.σ) (hm : IsRef M' mr p c R.L (st + R.dt) wi') (hwi : wi' ≤ wi + 1) (e : Ext (OursD k 9) ρ M ρ' M') (h4 : Cells M' x4 cs) (hl : cs.length = 5) (h9 : ρ' x4 = (1, 9)) (hc : ρ' mr = (1, 2) ∧ Col M' ρ' (blk p) (1, 2))
    (hr : res = (Option.bind (AMem.wr M' x4 0 [.int .i64 R.ev.kind, .int .i64 R.ev.part, .int .i64 R.ev.stripe, .bool R.ev.begun, .bool R.ev.ended]) fun M_1 =>
 (Option.bind (intOf? .i64 (AMem.ld M_1 x4 0)) fun x_2 =>
 (Option.bind (intOf? .i64 (AMem.ld M_1 x4 1)) fun x_3 =>
 (Option.bind (intOf? .i64 (AMem.ld M_1 x4 2)) fun x_4 =>
 (Option.bind (boolOf? (AMem.ld M_1 x4 3)) fun q_5 =>
 (Option.bind (boolOf? (AMem.ld M_1 x4 4)) fun q_6 =>
 some (.agg #[.int .i64 x_2, .int .i64 x_3, .int .i64 x_4, .bool q_5, .bool q_6], M_1)))))))) :
    OutD 9 k N P tp rb o A Z mr p c st wi ρ M res R := by
  obtain ⟨M2, y1, y2, _, _, z0, z1, z2, z3, z4⟩ := ev_tell h4 hl R.ev.kind R.ev.part R.ev.stripe R.ev.begun R.ev.ended
  rw [hr, bX y1, bLI z0, bLI z1, bLI z2, bLB z3, bLB z4]
  exact outd_tell (by decide) hk hI hm hwi e h9 hc rfl y2
theorem d_trace {x4 : Nat} {cs : List Value} (hC : PC k P tr) (h : DS k N P tp tr rb o A Z mr p c n ρ M D σ L st wi) (h4 : Cells M x4 cs) (hl : cs.length = 5) (h9 : ρ x4 = (1, 9)) (hf : σ.fr < σ.to) :
    OutD 9 k N P tp rb o A Z mr p c st wi ρ M (P16_39 LL (some ⟨rb, o, none⟩) (some ⟨mr, 0, none⟩) x4 M) ⟨{ σ with pl := P.tb.getD σ.fr.toNat [], fr := σ.fr + 1 }, L, ⟨2, σ.fr, 0, false, false⟩, 0⟩ := by
  have hfr := h.ok.fr
  have ha1 := hC.ok.cf.a1
  have htl : P.tb.length = tr.length := by rw [hC.tb]; simp
  have hall : P.all = (tr.length : Int) := by unfold WP.all; rw [htl]
  obtain ⟨r, hr⟩ : ∃ r, tr[σ.fr.toNat]? = some r := ⟨_, gee (by omega)⟩
  obtain ⟨z, etp, lz⟩ := h.tb.ld hr
  have hrow : P.tb.getD σ.fr.toNat [] = r.l := by rw [hC.tb, List.getD_eq_getElem?_getD, List.getElem?_map, hr]; rfl
  have hrm := List.mem_of_getElem? hr
  obtain ⟨⟨l0, l1, l2, l3, l4, l5, l6⟩, l10, l11, l12, l29, l30⟩ := h.I.at
  rw [etp] at l3
  have hg : (0 : Int) ≤ σ.fr ∧ σ.fr < Int.ofNat P.tb.length := by rw [ofN, htl]; omega
  rw [P16_39_eq]
  simp only
  rw [bLI l4, bLI l5, ifD hf, bLS l3, bLI l4]
  simp only [↓if_pos hg, Nat.zero_add]
  obtain ⟨M1, w1, w2, w3, w4, w5⟩ := h.I.put hC.hk 6 [.slice r.p r.l.length 0] (by show 6 + 1 ≤ 31; decide)
  rw [bLS lz, bX w1]
  have hI1 : IsD ρ k N P tp M1 rb o A Z { D with pp := r.p, pc := 0 } { σ with pl := r.l } := by
    refine ⟨w2, h.I.cw, w4.sl, w4.cq, ?_, fun hne => h.tb.rlt r hrm hne, w4.kv, w4.ck, w4.fl, w4.cl, w4.lt, w4.c0⟩
    exact View.of encS_length ((h.tb.ext w3 (fun h => by cases h) h.I.rs.c0).rows r hrm)
  have m4 := hI1.at.1.2.2.2.2.1
  simp only at m4
  have e1 : IntKind.wrap .i64 (σ.fr + 1) = σ.fr + 1 := w64 (by omega)
  obtain ⟨M2, v1, v2, v3, v4, v5⟩ := hI1.put hC.hk 4 [.int .i64 (σ.fr + 1)] (by show 4 + 1 ≤ 31; decide)
  have hI2 : IsD ρ k N P tp M2 rb o A Z { D with pp := r.p, pc := 0 } { σ with pl := r.l, fr := σ.fr + 1 } :=
    ⟨v2, h.I.cw, v4.sl, v4.cq, v4.pd, v4.cp, v4.kv, v4.ck, v4.fl, v4.cl, v4.lt, v4.c0⟩
  have n4 := hI2.at.1.2.2.2.2.1
  simp only at n4
  have e2 : IntKind.wrap .i64 (σ.fr + 1 - 1) = σ.fr := by rw [w64 (by omega)]; omega
  rw [bLI m4, e1, bX v1, P16_47_eq]
  simp only
  rw [bLI n4, e2, hrow]
  have x2 : Ext (MineD k) ρ M ρ M2 := (w3.trans v3).mono row_m
  obtain ⟨j4, j9⟩ := tmp_d hC.hk h4 h9 x2
  exact d_tell (R := ⟨{ σ with pl := r.l, fr := σ.fr + 1 }, L, ⟨2, σ.fr, 0, false, false⟩, 0⟩) hC.hk hI2 (ref_ext h.mm h.hc x2 (nmineD hC.hk (by decide))) (Nat.le_succ _) (x2.mono mine_d) j4 hl j9 (refcol h.mm h.hc x2) rfl
theorem d_claim {x4 : Nat} {cs : List Value} (hC : PC k P tr) (h : DS k N P tp tr rb o A Z mr p c n ρ M D σ L st wi) (h4 : Cells M x4 cs) (hl : cs.length = 5) (h9 : ρ x4 = (1, 9)) (hf : ¬ σ.fr < σ.to) (ho : σ.over = false) :
    OutD 9 k N P tp rb o A Z mr p c st wi ρ M (P16_39 LL (some ⟨rb, o, none⟩) (some ⟨mr, 0, none⟩) x4 M) (claimW P L σ) := by
  have hk := hC.hk
  obtain ⟨c1, c2, c3, c4⟩ := h.ok.cl ho
  have hn := h.n
  have hlo := h.ok.lo
  have hst := h.st
  have hwi := h.wi
  have hL : L ≠ [] := fun e => by
    have := h.lo.1
    rw [e] at this
    obtain ⟨r1, r2, r3, r4⟩ := hC.ok.rt
    simp at this; omega
  have f1 := h.I.rs.cl ho
  have e0 : encD P tp D σ = (d0 P tp D σ ++ d7 P D σ ++ (d11 D σ ++ D.js.l)) ++ Bt.encR P.all P.size σ.cs ++ d29 σ := by
    unfold encD; rw [f1]; rfl
  have md := h.I.hd
  rw [e0] at md
  have md21 := md.part (j := 21) rfl
  have q2 : M.ld rb (o + 21 + 2) = some (.int .i64 σ.cs.lost) := md21.ld 2 rfl
  obtain ⟨⟨l0, l1, l2, l3, l4, l5, l6⟩, l10, l11, l12, l29, l30⟩ := h.I.at
  have ne1 : rb ≠ mr ∧ rb ∉ blk p := ⟨fun e => (by have := h.I.cw; rw [e, h.hc.1] at this; cases this), fun hm => (by have := (h.hc.2 _ hm).2; rw [h.I.cw] at this; cases this)⟩
  obtain ⟨M1, wi', b1, b2, b3, b4, b5⟩ := Bt.rstep_spec hC.ok.cf ⟨c3, by omega⟩ c2 hL md21 h.mm hst hwi ne1.1 ne1.2
  rw [P16_39_eq]
  simp only
  rw [ho] at l29
  rw [bLI l4, bLI l5, ifDn hf, bLB l29, ifNF, bLI q2, bX b1, bB]
  have md1 : Mid M1 rb o A (encD P tp { D with cs := clmV P { σ with cs := Bt.stepS P.all P.size (getI L 0) σ.cs } } { σ with cs := Bt.stepS P.all P.size (getI L 0) σ.cs }) Z := b2.whole rfl
  have x1 : Ext (fun c => c = (1, 1) ∨ c = (1, 2)) ρ M ρ M1 := Ext.of b5 (fun z hz _ => by
    rcases List.mem_cons.1 hz with rfl | hz
    · exact .inl h.I.cw
    · rcases List.mem_cons.1 hz with rfl | hz
      · exact .inr h.hc.1
      · exact .inr (h.hc.2 z hz).2)
  have nk : ∀ r, ¬ (fun c : Nat × Nat => c = (1, 1) ∨ c = (1, 2)) (k, r) := fun r hx => by
    rcases hx with hx | hx <;> exact hk.2 (congrArg Prod.fst hx)
  have nz : ¬ (fun c : Nat × Nat => c = (1, 1) ∨ c = (1, 2)) (0, 0) := fun hx => by rcases hx with hx | hx <;> cases hx
  have n9 : ¬ (fun c : Nat × Nat => c = (1, 1) ∨ c = (1, 2)) (1, 9) := fun hx => by rcases hx with hx | hx <;> cases hx
  have r1 := h.I.rs.ext x1 (fun r _ => nk r) nz
  obtain ⟨m1, m2⟩ := st_mono P.all P.size (getI L 0) σ.cs
  have hc1 := refcol h.mm h.hc x1
  unfold claimW
  simp only
  generalize Bt.stepS P.all P.size (getI L 0) σ.cs = cs' at md1 m1 m2 ⊢
  have hI1 : IsD ρ k N P tp M1 rb o A Z { D with cs := clmV P { σ with cs := cs' } } { σ with cs := cs' } :=
    ⟨md1, h.I.cw, r1.sl, r1.cq, r1.pd, r1.cp, r1.kv, r1.ck, r1.fl, fun _ => rfl, r1.lt, r1.c0⟩
  have k30 := hI1.at.2.2.2.2.2
  simp only at k30
  have k23 : M1.ld rb (o + 21 + 2) = some (.int .i64 cs'.lost) := hI1.hd.ld 23 rfl
  have e1 : IntKind.wrap .i64 ((σ.lost : Int) + (cs'.lost : Int)) = (σ.lost : Int) + (cs'.lost : Int) := w64 (by omega)
  have e2 : IntKind.wrap .i64 ((σ.lost : Int) + (cs'.lost : Int) - (σ.cs.lost : Int)) = ((σ.lost + cs'.lost - σ.cs.lost : Nat) : Int) := by rw [w64 (by omega)]; omega
  rw [bLI k30, bLI k23, e1, e2]
  obtain ⟨M2, v1, v2, v3, v4, v5⟩ := hI1.put hk 30 [.int .i64 ((σ.lost + cs'.lost - σ.cs.lost : Nat) : Int)] (by show 30 + 1 ≤ 31; decide)
  have hI2 : IsD ρ k N P tp M2 rb o A Z { D with cs := clmV P { σ with cs := cs' } } { σ with cs := cs', lost := σ.lost + cs'.lost - σ.cs.lost } :=
    ⟨v2, h.I.cw, v4.sl, v4.cq, v4.pd, v4.cp, v4.kv, v4.ck, v4.fl, fun _ => rfl, v4.lt, v4.c0⟩
  rw [bX v1, P16_61_eq]
  have x12 : Ext (fun c => c = (1, 1) ∨ c = (1, 2)) ρ M ρ M2 := x1.trans (v3.mono (fun c h => .inl h))
  have toD : ∀ c : Nat × Nat, (c = (1, 1) ∨ c = (1, 2)) → OursD k 9 c := fun c hc => by
    rcases hc with hc | hc
    · exact .inr (.inl hc)
    · exact .inr (.inr (.inl hc))
  have fin : ∀ {M3 : AMem} {r3 : Cl} {D3 : DB} {σ3 : WS}, IsD r3 k N P tp M3 rb o A Z D3 σ3 → Ext (fun c => c = (1, 1)) ρ M1 r3 M3 →
      OutD 9 k N P tp rb o A Z mr p c st wi ρ M (P16_73 LL x4 M3) ⟨σ3, Bt.stepL P.all P.size L σ.cs, ⟨1, 0, 0, false, false⟩, 1⟩ := fun {M3 r3 D3 σ3} hI x => by
    have xx : Ext (OursD k 9) ρ M r3 M3 := (x1.mono toD).trans (x.mono (fun c h => .inr (.inl h)))
    have n11 : ¬ (fun c : Nat × Nat => c = (1, 1)) (1, 9) := fun hx => by cases hx
    obtain ⟨i4, i9⟩ := tmp_keept (tmp_keept h4 h9 x1 n9).1 (tmp_keept h4 h9 x1 n9).2 x n11
    rw [P16_73_eq]
    exact d_tell (R := ⟨σ3, Bt.stepL P.all P.size L σ.cs, ⟨1, 0, 0, false, false⟩, 1⟩) hk hI (ref_ext b3 hc1 x (fun hx => by cases hx)) b4 xx i4 hl i9 (refcol b3 hc1 x) rfl
  have g25 : M2.ld rb (o + 21 + 4) = some (.bool (decide (1 < cs'.ph))) := hI2.hd.ld 25 rfl
  simp only
  rw [bLB g25]
  by_cases hd : 1 < cs'.ph
  · have g27 : M2.ld rb (o + 21 + 6) = some (.int .i64 cs'.fr) := hI2.hd.ld 27 rfl
    have g28 : M2.ld rb (o + 21 + 7) = some (.int .i64 cs'.to) := hI2.hd.ld 28 rfl
    rw [ifD hd, if_neg (show ¬ cs'.ph < 2 by omega), bLI g27, bLI g28]
    by_cases hft : cs'.fr < cs'.to
    · rw [ifD hft, if_pos hft, bLI g27]
      obtain ⟨M4, u1, u2, u3, u4, u5⟩ := hI2.put hk 4 [.int .i64 cs'.fr] (by show 4 + 1 ≤ 31; decide)
      have hI4 : IsD ρ k N P tp M4 rb o A Z { D with cs := clmV P { σ with cs := cs' } } { σ with cs := cs', lost := σ.lost + cs'.lost - σ.cs.lost, fr := cs'.fr } :=
        ⟨u2, h.I.cw, u4.sl, u4.cq, u4.pd, u4.cp, u4.kv, u4.ck, u4.fl, fun _ => rfl, u4.lt, u4.c0⟩
      have g28' : M4.ld rb (o + 21 + 7) = some (.int .i64 cs'.to) := hI4.hd.ld 28 rfl
      rw [bX u1, bLI g28']
      obtain ⟨M5, t1, t2, t3, t4, t5⟩ := hI4.put hk 5 [.int .i64 cs'.to] (by show 5 + 1 ≤ 31; decide)
      have hI5 : IsD ρ k N P tp M5 rb o A Z { D with cs := clmV P { σ with cs := cs' } } { σ with cs := cs', lost := σ.lost + cs'.lost - σ.cs.lost, fr := cs'.fr, to := cs'.to } :=
        ⟨t2, h.I.cw, t4.sl, t4.cq, t4.pd, t4.cp, t4.kv, t4.ck, t4.fl, fun _ => rfl, t4.lt, t4.c0⟩
      rw [bX t1, P16_69_eq]
      obtain ⟨⟨_, _, y2, y3, _⟩, _⟩ := hI5.at
      obtain ⟨_, n1⟩ := Bt.rnewc_spec hC.ok.cf
      have n1' : LL.call 35 [.int .i64 (Int.ofNat P.tb.length), .int .i64 P.size] [] = some (.tuple #[.agg #[.int .i64 P.all, .int .i64 P.size, .int .i64 0, .bool false, .bool false, .int .u64 0, .int .i64 0, .int .i64 0], .bool true], _) := n1
      simp only
      rw [bLS y3, bLI y2]
      simp only
      rw [bX n1', bT2, bG0, bA8, bI0, bI1, bI2, bB3, bB4, bI5', bI6, bI7, bG1, bB]
      have s6 := same_app M5 [AObj.cells [.int .i64 0, .int .i64 0, .int .i64 0, .bool false, .bool false, .int .u64 0, .int .i64 0, .int .i64 0] ⟨false, 0⟩]
      have g6 := cells_new M5 [.int .i64 0, .int .i64 0, .int .i64 0, .bool false, .bool false, .int .u64 0, .int .i64 0, .int .i64 0] 0
      have hchk : chkOk [(3, 13), (8, 13)] [(8, rb), (3, rb)] [(13, (M5, M5 ++ [AObj.cells [.int .i64 0, .int .i64 0, .int .i64 0, .bool false, .bool false, .int .u64 0, .int .i64 0, .int .i64 0] ⟨false, 0⟩]))] = true := by
        simp [chkOk, List.lookup, ver_same s6 hI5.hd.cs.lt (by simp)]
      simp only [hchk, if_true]
      generalize M5 ++ [AObj.cells [.int .i64 0, .int .i64 0, .int .i64 0, .bool false, .bool false, .int .u64 0, .int .i64 0, .int .i64 0] ⟨false, 0⟩] = M6 at s6 g6 ⊢
      obtain ⟨M7, j1, j2, j3, j4⟩ := g6.wr (o := 0) (vs := [.int .i64 P.all, .int .i64 P.size, .int .i64 0, .bool false, .bool false, .int .u64 0, .int .i64 0, .int .i64 0]) (by exact (by decide : 0 + 8 ≤ 8))
      have j2' : Cells M7 M5.length [.int .i64 P.all, .int .i64 P.size, .int .i64 0, .bool false, .bool false, .int .u64 0, .int .i64 0, .int .i64 0] := j2
      have i0 : M7.ld M5.length 0 = some (.int .i64 P.all) := j2'.ld 0
      have i1 : M7.ld M5.length 1 = some (.int .i64 P.size) := j2'.ld 1
      have i2 : M7.ld M5.length 2 = some (.int .i64 0) := j2'.ld 2
      have i3 : M7.ld M5.length 3 = some (.bool false) := j2'.ld 3
      have i4 : M7.ld M5.length 4 = some (.bool false) := j2'.ld 4
      have i5 : M7.ld M5.length 5 = some (.int .u64 0) := j2'.ld 5
      have i6 : M7.ld M5.length 6 = some (.int .i64 0) := j2'.ld 6
      have i7 : M7.ld M5.length 7 = some (.int .i64 0) := j2'.ld 7
      have t57 : Same M5 M7 [] := (s6.trans j3).mono' (fun b hb hlt => by simp at hb; omega)
      have hI7 := hI5.st t57
      rw [bX j1, bLI i0, bLI i1, bLI i2, bLB i3, bLB i4, bLI i5, bLI i6, bLI i7]
      obtain ⟨M8, p1, p2, p3, p4, p5⟩ := hI7.put hk 21 [.int .i64 P.all, .int .i64 P.size, .int .i64 0, .bool false, .bool false, .int .u64 0, .int .i64 0, .int .i64 0] (by show 21 + 8 ≤ 31; decide)
      rw [bX p1]
      have hI8 : IsD ρ k N P tp M8 rb o A Z { D with cs := clmV P { σ with cs := .init } } { σ with cs := .init, lost := σ.lost + cs'.lost - σ.cs.lost, fr := cs'.fr, to := cs'.to } :=
        ⟨p2, h.I.cw, p4.sl, p4.cq, p4.pd, p4.cp, p4.kv, p4.ck, p4.fl, fun _ => rfl, p4.lt, p4.c0⟩
      exact fin hI8 ((((v3.trans u3).trans t3).trans (Ext.of t57 (fun z hz => by simp at hz))).trans p3)
    · rw [ifDn hft, if_neg hft, bLB g25]
      obtain ⟨M4, u1, u2, u3, u4, u5⟩ := hI2.put hk 29 [.bool (decide (1 < cs'.ph))] (by show 29 + 1 ≤ 31; decide)
      rw [bX u1]
      rw [decide_eq_true hd] at u2
      have hI4 : IsD ρ k N P tp M4 rb o A Z { D with cs := clmV P { σ with cs := cs' } } { σ with cs := cs', lost := σ.lost + cs'.lost - σ.cs.lost, over := true } :=
        ⟨u2, h.I.cw, u4.sl, u4.cq, u4.pd, u4.cp, u4.kv, u4.ck, u4.fl, fun _ => rfl, u4.lt, u4.c0⟩
      exact fin hI4 (v3.trans u3)
  · rw [ifDn hd, if_pos (show cs'.ph < 2 by omega), bLB g25]
    obtain ⟨M4, u1, u2, u3, u4, u5⟩ := hI2.put hk 29 [.bool (decide (1 < cs'.ph))] (by show 29 + 1 ≤ 31; decide)
    rw [bX u1]
    rw [decide_eq_false hd] at u2
    have hI4 : IsD ρ k N P tp M4 rb o A Z { D with cs := clmV P { σ with cs := cs' } } { σ with cs := cs', lost := σ.lost + cs'.lost - σ.cs.lost } := by
      refine ⟨?_, h.I.cw, u4.sl, u4.cq, u4.pd, u4.cp, u4.kv, u4.ck, u4.fl, fun _ => rfl, u4.lt, u4.c0⟩
      have : wrL (encD P tp { D with cs := clmV P { σ with cs := cs' } } { σ with cs := cs', lost := σ.lost + cs'.lost - σ.cs.lost }) 29 [.bool false] = encD P tp { D with cs := clmV P { σ with cs := cs' } } { σ with cs := cs', lost := σ.lost + cs'.lost - σ.cs.lost } := by
        unfold encD d29
        rw [show ({ σ with cs := cs', lost := σ.lost + cs'.lost - σ.cs.lost } : WS).over = σ.over from rfl, ho]; rfl
      rw [← this]; exact u2
    exact fin hI4 (v3.trans u3)
theorem d39 {x4 : Nat} {cs : List Value} (hC : PC k P tr) (h : DS k N P tp tr rb o A Z mr p c n ρ M D σ L st wi) (h4 : Cells M x4 cs) (hl : cs.length = 5) (h9 : ρ x4 = (1, 9)) (hh : σ.has = false) :
    OutD 9 k N P tp rb o A Z mr p c st wi ρ M (P16_39 LL (some ⟨rb, o, none⟩) (some ⟨mr, 0, none⟩) x4 M)
      (if σ.fr < σ.to then ⟨{ σ with pl := P.tb.getD σ.fr.toNat [], fr := σ.fr + 1 }, L, ⟨2, σ.fr, 0, false, false⟩, 0⟩ else if !σ.over then claimW P L σ else if σ.es ≠ [] then flushW L (beginW P (stripesW P σ)) else ⟨σ, L, .zero, 0⟩) := by
  by_cases hf : σ.fr < σ.to
  · rw [if_pos hf]; exact d_trace hC h h4 hl h9 hf
  rw [if_neg hf]
  cases ho : σ.over with
  | false => exact d_claim hC h h4 hl h9 hf ho
  | true =>
    obtain ⟨⟨l0, l1, l2, l3, l4, l5, l6⟩, l10, l11, l12, l29, l30⟩ := h.I.at
    have l10' : M.ld rb (o + 7 + 3) = some (.slice D.q σ.es.length D.qc) := l10
    rw [ho] at l29
    rw [if_neg (show ¬ ((!true) = true) by decide)]
    rw [P16_39_eq]
    simp only
    rw [bLI l4, bLI l5, ifDn hf, bLB l29, ifNT, bLS l10']
    by_cases he : σ.es ≠ []
    · have hlen := List.length_pos_iff.2 he
      rw [if_pos he, show (Int.ofNat σ.es.length == 0) = false from beq_eq_false_iff_ne.2 (by rw [ofN]; omega), ifF]
      have := dStr_spec hC h h4 hl h9 hh he
      unfold dStr at this
      simp only [P16_34_eq] at this
      exact this
    · have he' : σ.es = [] := by simpa using he
      rw [if_neg he, he', show (Int.ofNat ([] : List En).length == 0) = true from rfl, ifT]
      exact d_tell (R := ⟨σ, L, .zero, 0⟩) hC.hk h.I h.mm (Nat.le_succ _) (Ext.refl _ _ _) h4 hl h9 h.hc rfl
theorem stepW_has (P : WP) (L : List Int) {σ : WS} (hh : σ.has = true) : stepW P L σ = flushW L σ := by unfold stepW; rw [if_pos hh]
theorem stepW_ks (P : WP) (L : List Int) {σ : WS} (hh : σ.has = false) (hk : σ.ks ≠ []) : stepW P L σ = flushW L (beginW P σ) := by unfold stepW; rw [if_neg (by simp [hh]), if_pos hk]
theorem stepW_g (P : WP) (L : List Int) {σ : WS} (hh : σ.has = false) (hk : σ.ks = []) :
    stepW P L σ = if (gathW P σ).pl ≠ [] then flushW L (beginW P (stripesW P (gathW P σ))) else if (gathW P σ).fr < (gathW P σ).to then ⟨{ gathW P σ with pl := P.tb.getD (gathW P σ).fr.toNat [], fr := (gathW P σ).fr + 1 }, L, ⟨2, (gathW P σ).fr, 0, false, false⟩, 0⟩
      else if !(gathW P σ).over then claimW P L (gathW P σ) else if (gathW P σ).es ≠ [] then flushW L (beginW P (stripesW P (gathW P σ))) else ⟨gathW P σ, L, .zero, 0⟩ := by
  unfold stepW; rw [if_neg (by simp [hh]), if_neg (by simp [hk])]; rfl
theorem done_step (P : WP) (L : List Int) {σ : WS} (h : doneW σ = true) : stepW P L σ = ⟨σ, L, .zero, 0⟩ := by
  unfold doneW at h
  simp only [Bool.and_eq_true, Bool.not_eq_true', decide_eq_true_eq, List.isEmpty_iff] at h
  obtain ⟨h1, h2, h3, h4, h5, h6⟩ := h
  have hg : gathW P σ = σ := by
    unfold gathW; cases σ; simp only at h3; simp [h3, putAll]
  rw [stepW_g P L h1 h2, hg, if_neg (by simp [h3]), if_neg (by omega), if_neg (by simp [h5]), if_neg (by simp [h6])]
theorem dstep (hC : PC k P tr) (h : DS k N P tp tr rb o A Z mr p c n ρ M D σ L st wi) :
    OutD 9 k N P tp rb o A Z mr p c st wi ρ M (LL.call 16 [.pointer (some ⟨rb, o, none⟩), pt mr] M) (stepW P L σ) := by
  rw [L_call16, E16]
  have hk := hC.hk
  have s0 := same_app M [AObj.cells ev0 ⟨false, 0⟩]
  have g0 := cells_new M ev0 0
  generalize M ++ [AObj.cells ev0 ⟨false, 0⟩] = M0 at s0 g0 ⊢
  obtain ⟨ρ0, e0, hx9⟩ := tmp_newt (ρ := ρ) 9 s0
  have em := e0.mono (K' := MineD k) (fun _ h => h.elim)
  have h0 := h.mine hC (h.I.ext e0 (fun _ _ h => h) (fun h => h) (fun h => h)) em h.ok
  refine OutD.pre (ρ' := ρ0) (M' := M0) ?_ (em.mono mine_d)
  obtain ⟨⟨l0, l1, l2, l3, l4, l5, l6⟩, l10, l11, l12, l29, l30⟩ := h0.I.at
  have m0 : M0.ld mr 0 = some (.slice p L.length c) := h0.mm.hd.ld 0
  obtain ⟨_, ks⟩ := rsize31_spec P.p P.s
  rw [if_pos hC.ok.rt] at ks
  have hb : (Int.ofNat L.length != 1 + 2 * P.s + 3 * P.p) = false := by rw [ofN, h.lo.1]; simp
  simp only
  rw [bLS m0, bLI l0, bLI l1, bX ks, bI]
  simp only [hb, Bool.false_eq_true, if_false]
  rw [bX (ddone h0.I), bB]
  cases hd : doneW σ with
  | true =>
    rw [ifT, done_step P L hd]
    exact d_tell (R := ⟨σ, L, .zero, 0⟩) hk h0.I h0.mm (Nat.le_succ _) (Ext.refl _ _ _) g0 rfl hx9 h0.hc rfl
  | false =>
    rw [ifF, bLB l12]
    cases hh : σ.has with
    | true =>
      rw [ifT, stepW_has P L hh, P16_13_eq, ifT]
      exact dpass hk h0.mm h0.hc g0 rfl hx9 (dflush_on hC h0 hh)
    | false =>
      rw [ifF, bLS l11, P16_13_eq]
      by_cases hks : σ.ks ≠ []
      · obtain ⟨k0, kr, ek⟩ : ∃ k0 kr, σ.ks = k0 :: kr := by
          cases hx : σ.ks with
          | nil => exact absurd hx hks
          | cons k0 kr => exact ⟨k0, kr, rfl⟩
        rw [stepW_ks P L hh hks, ifD (by simp only [ofN, ek, List.length_cons]; omega)]
        exact dpass hk h0.mm h0.hc g0 rfl hx9 (dflush_new hC h0 hh ek)
      · have hks' : σ.ks = [] := by simpa using hks
        rw [stepW_g P L hh hks', ifDn (by simp [hks'])]
        obtain ⟨M1, ρ1, D1, a1, a2, a3⟩ := dgather (mr := mr) (x4 := M.length) hC σ.pl ρ0 M0 D σ rfl h0.ok h0.I
        obtain ⟨j4, j9⟩ := tmp_d hk g0 hx9 a3
        have hg := gathW_ok hC.ok h0.ok
        have hge := gathW_ne hC.ok h0.ok
        have hS := h0.mine hC a2 a3 hg
        have hgh : (gathW P σ).has = false := hh
        rw [a1]
        refine OutD.pre ?_ (a3.mono mine_d)
        generalize gathW P σ = σ1 at hg hge hS hgh ⊢
        by_cases hp : σ1.pl ≠ []
        · rw [if_pos hp, show σ1.pl.isEmpty = false by cases hx : σ1.pl with | nil => exact absurd hx hp | cons => rfl, ifF]
          exact dStr_spec hC hS j4 rfl j9 hgh (hge hp)
        · have hp' : σ1.pl = [] := by simpa using hp
          rw [if_neg hp, hp', show List.isEmpty ([] : List Sp) = true from rfl, ifT]
          exact d39 hC hS j4 rfl j9 hgh
end
theorem cnew_none {p s n : Int} (M : AMem) (h : ¬ (Rt p s ∧ 1 ≤ n ∧ n ≤ 4096)) : ∃ M', LL.call 27 [lay p s, .int .i64 n] M = some (.pointer none, M') ∧ Same M M' [] := by
  rw [L_call27, E27]
  have g0 := cells_new M [.int .i64 p, .int .i64 s] 0
  have s0 := same_app M [AObj.cells [.int .i64 p, .int .i64 s] ⟨false, 0⟩]
  generalize M ++ [AObj.cells [.int .i64 p, .int .i64 s] ⟨false, 0⟩] = M0 at g0 s0 ⊢
  have y0 : M0.ld M.length 0 = some (.int .i64 p) := g0.ld 0
  have y1 : M0.ld M.length 1 = some (.int .i64 s) := g0.ld 1
  obtain ⟨_, k⟩ := right_spec p s
  rw [bLI y0, bLI y1, bX k, bB]
  refine ⟨M0, ?_, s0⟩
  by_cases c1 : Rt p s
  · rw [decide_eq_true c1, ifNT]
    by_cases c2 : n < 1
    · rw [ifD c2]
    · rw [ifDn c2, ifD (show n > 4096 by have : ¬ (1 ≤ n ∧ n ≤ 4096) := fun c => h ⟨c1, c⟩; omega)]
  · rw [decide_eq_false c1, ifNF]
def WS.new : WS := ⟨0, 0, [], [], [], false, 0, [], ⟨0, [], 0, false, 0, 0⟩, .init, false, 0⟩
section
variable {N x4 x9 : Nat} {P : WP} {tp : Option Addr} {tr : List Row} {tc : Nat} {xn : Int}
theorem pn_row {r : Row} {i : Int} (hrt : Rt P.p P.s) (hl : r.l.length ≤ 1000000) : ∀ (d j : Nat) (M : AMem), j + d = r.l.length → RdL M encS r.p r.l.length r.l → Rd M x4 [.int .i64 P.p, .int .i64 P.s] →
    ((∀ x ∈ r.l.drop j, SpOk P x) → ∃ M', P10_30 LL x4 x9 tp tr.length tc xn i r.p r.l.length 0 (r.l.length : Int) (j : Int) M = P10_49 LL x4 x9 tp tr.length tc xn i M' ∧ Same M M' []) ∧
    ((¬ ∀ x ∈ r.l.drop j, SpOk P x) → ∃ M', P10_30 LL x4 x9 tp tr.length tc xn i r.p r.l.length 0 (r.l.length : Int) (j : Int) M = some (.pointer none, M') ∧ Same M M' []) := by
  intro d
  induction d with
  | zero =>
    intro j M hj hr h4
    rw [P10_30_eq LL L_loop, ifDn (by omega)]
    refine ⟨fun _ => ⟨M, rfl, .refl _ _⟩, fun h => ?_⟩
    rw [List.drop_eq_nil_of_le (by omega)] at h
    exact absurd (fun x hx => by simp at hx) h
  | succ d ih =>
    intro j M hj hr h4
    have hjl : j < r.l.length := by omega
    obtain ⟨x, hx⟩ : ∃ x, r.l[j]? = some x := ⟨_, gee hjl⟩
    have hxe : r.l[j] = x := by have := gee hjl; rw [hx] at this; exact (Option.some.inj this).symm
    obtain ⟨z, ez, hz⟩ := hr.2 (by omega)
    have hg : (0 : Int) ≤ (j : Int) ∧ (j : Int) < Int.ofNat r.l.length := by rw [ofN]; omega
    have hw : IntKind.wrap .i64 ((j : Int) + 1) = ((j + 1 : Nat) : Int) := by rw [w64 (by omega)]; rfl
    have q : ∀ o v, o < 4 → (encS x)[o]? = some v → M.ld z (j * 4 + o) = some v := fun o v ho hv => by rw [hz.ld, flat_get encS_length r.l j o x hx ho, hv]
    have y0 : M.ld z (j * 4) = some (.int .i64 x.px) := q 0 _ (by decide) rfl
    have y1 : M.ld z (j * 4 + 1) = some (.int .i64 x.r) := q 1 _ (by decide) rfl
    have y2 : M.ld z (j * 4 + 2) = some (.int .i64 x.g) := q 2 _ (by decide) rfl
    have y3 : M.ld z (j * 4 + 3) = some (.int .i64 x.b) := q 3 _ (by decide) rfl
    rw [P10_30_eq LL L_loop, ifD (by omega), ez]
    simp only [↓if_pos hg, Nat.zero_add, Int.toNat_natCast]
    have g1 := cells_new M [.int .i64 0, .int .i64 0, .int .i64 0, .int .i64 0] 0
    have s1 := same_app M [AObj.cells [.int .i64 0, .int .i64 0, .int .i64 0, .int .i64 0] ⟨false, 0⟩]
    rw [bLI y0, bLI y1, bLI y2, bLI y3]
    generalize M ++ [AObj.cells [.int .i64 0, .int .i64 0, .int .i64 0, .int .i64 0] ⟨false, 0⟩] = M1 at g1 s1 ⊢
    obtain ⟨M2, w1, w2, w3, w4⟩ := g1.wr (o := 0) (vs := encS x) (by exact (by decide : 0 + 4 ≤ 4))
    have w2' : Cells M2 M.length (encS x) := w2
    have t2 : Same M M2 [] := (s1.trans w3).mono' (fun b hb hlt => by simp at hb; omega)
    have h42 := h4.same t2 (by simp)
    have v0 : M2.ld x4 0 = some (.int .i64 P.p) := h42.ld 0
    have v1 : M2.ld x4 1 = some (.int .i64 P.s) := h42.ld 1
    have u0 : M2.ld M.length 0 = some (.int .i64 x.px) := w2'.ld 0
    have u1 : M2.ld M.length 1 = some (.int .i64 x.r) := w2'.ld 1
    have u2 : M2.ld M.length 2 = some (.int .i64 x.g) := w2'.ld 2
    have u3 : M2.ld M.length 3 = some (.int .i64 x.b) := w2'.ld 3
    obtain ⟨_, k1⟩ := stripe_spec P.p P.s x.px
    obtain ⟨_, k2⟩ := weight_spec x.r x.g x.b
    obtain ⟨i1, i2⟩ := ih (j + 1) M2 (by omega) ⟨rfl, fun h0 => ⟨z, ez, hz.same t2 (by simp)⟩⟩ h42
    have hdrop : r.l.drop j = x :: r.l.drop (j + 1) := by rw [List.drop_eq_getElem_cons hjl, hxe]
    rw [hdrop]
    have hw1 : AMem.wr M1 M.length 0 [.int .i64 x.px, .int .i64 x.r, .int .i64 x.g, .int .i64 x.b] = some M2 := w1
    rw [bX hw1, bLI v0, bLI v1, bLI u0, bX k1, bI]
    by_cases c1 : 0 ≤ x.px ∧ x.px < P.p
    · have htm : 0 ≤ Int.tmod x.px P.s := Int.tmod_nonneg _ c1.1
      have hv : (if Rt P.p P.s ∧ 0 ≤ x.px ∧ x.px < P.p then Int.tmod x.px P.s else -1) = Int.tmod x.px P.s := if_pos ⟨hrt, c1⟩
      rw [hv, ifDn (by omega), bLI u1, bLI u2, bLI u3, bX k2, bB]
      by_cases c2 : Wt x.r x.g x.b
      · rw [decide_eq_true c2, ifNT, P10_48_eq, hw, ← ez]
        refine ⟨fun h => ?_, fun h => ?_⟩
        · obtain ⟨M', e, t⟩ := i1 (fun y hy => h y (by simp [hy]))
          exact ⟨M', e, (t2.trans t).mono (by simp)⟩
        · obtain ⟨M', e, t⟩ := i2 (fun hh => h (fun y hy => by
            rcases List.mem_cons.1 hy with rfl | hy
            · exact ⟨c1, c2⟩
            · exact hh y hy))
          exact ⟨M', e, (t2.trans t).mono (by simp)⟩
      · rw [decide_eq_false c2, ifNF]
        exact ⟨fun h => absurd (h x (by simp)).2 c2, fun _ => ⟨M2, rfl, t2⟩⟩
    · have hv : (if Rt P.p P.s ∧ 0 ≤ x.px ∧ x.px < P.p then Int.tmod x.px P.s else -1) = -1 := if_neg (fun h => c1 h.2)
      rw [hv, ifD (by decide)]
      exact ⟨fun h => absurd (h x (by simp)).1 c1, fun _ => ⟨M2, rfl, t2⟩⟩
theorem pn_tab (hrt : Rt P.p P.s) (hall : ∀ r ∈ tr, r.l.length ≤ 1000000) (htl : tr.length ≤ 1000000000) : ∀ (d i : Nat) (M : AMem), i + d = tr.length → TbOk N M tp tr → Rd M x4 [.int .i64 P.p, .int .i64 P.s] →
    ((∀ r ∈ tr.drop i, ∀ x ∈ r.l, SpOk P x) → ∃ M', P10_16 LL x4 x9 tp tr.length tc (tr.length : Int) (i : Int) M = some (pt x9, M') ∧ Same M M' []) ∧
    ((¬ ∀ r ∈ tr.drop i, ∀ x ∈ r.l, SpOk P x) → ∃ M', P10_16 LL x4 x9 tp tr.length tc (tr.length : Int) (i : Int) M = some (.pointer none, M') ∧ Same M M' []) := by
  intro d
  induction d with
  | zero =>
    intro i M hi ht h4
    rw [P10_16_eq LL L_loop, ifDn (by omega), P10_50_eq]
    refine ⟨fun _ => ⟨M, rfl, .refl _ _⟩, fun h => ?_⟩
    rw [List.drop_eq_nil_of_le (by omega)] at h
    exact absurd (fun x hx => by simp at hx) h
  | succ d ih =>
    intro i M hi ht h4
    have hil : i < tr.length := by omega
    obtain ⟨r, hr⟩ : ∃ r, tr[i]? = some r := ⟨_, gee hil⟩
    have hre : tr[i] = r := by have := gee hil; rw [hr] at this; exact (Option.some.inj this).symm
    have hrm := List.mem_of_getElem? hr
    obtain ⟨z, ez, lz⟩ := ht.ld hr
    have hg : (0 : Int) ≤ (i : Int) ∧ (i : Int) < Int.ofNat tr.length := by rw [ofN]; omega
    have hw : IntKind.wrap .i64 ((i : Int) + 1) = ((i + 1 : Nat) : Int) := by rw [w64 (by omega)]; rfl
    rw [P10_16_eq LL L_loop, ifD (by omega), ez]
    simp only [↓if_pos hg, Nat.zero_add, Int.toNat_natCast]
    rw [bLS lz, ← ez]
    simp only [ofN]
    obtain ⟨a1, a2⟩ := pn_row (x4 := x4) (x9 := x9) (tp := tp) (tr := tr) (tc := tc) (xn := (tr.length : Int)) (i := (i : Int)) hrt (hall r hrm) r.l.length 0 M (by omega) (ht.rows r hrm) h4
    have hdrop : tr.drop i = r :: tr.drop (i + 1) := by rw [List.drop_eq_getElem_cons hil, hre]
    rw [hdrop]
    rw [List.drop_zero] at a1 a2
    by_cases hok : ∀ x ∈ r.l, SpOk P x
    · obtain ⟨M1, e1, t1⟩ := a1 hok
      obtain ⟨i1, i2⟩ := ih (i + 1) M1 (by omega) (ht.same t1 (by simp)) (h4.same t1 (by simp))
      have e1' : P10_30 LL x4 x9 tp tr.length tc (tr.length : Int) (i : Int) r.p r.l.length 0 (r.l.length : Int) 0 M = _ := e1
      rw [e1', P10_49_eq, hw]
      refine ⟨fun h => ?_, fun h => ?_⟩
      · obtain ⟨M', e, t⟩ := i1 (fun y hy => h y (by simp [hy]))
        exact ⟨M', e, (t1.trans t).mono (by simp)⟩
      · obtain ⟨M', e, t⟩ := i2 (fun hh => h (fun y hy => by
          rcases List.mem_cons.1 hy with rfl | hy
          · exact hok
          · exact hh y hy))
        exact ⟨M', e, (t1.trans t).mono (by simp)⟩
    · obtain ⟨M1, e1, t1⟩ := a2 hok
      exact ⟨fun h => absurd (h r (by simp)) hok, fun _ => ⟨M1, e1, t1⟩⟩
def WRt (P : WP) : Prop := (Rt P.p P.s ∧ 1 ≤ P.room ∧ P.room ≤ 4096) ∧ Bt.CFit P.all P.size ∧ ∀ l ∈ P.tb, ∀ x ∈ l, SpOk P x
theorem WRt.ok (h : WRt P) (hl : ∀ l ∈ P.tb, l.length ≤ 1000000) : WPok P := ⟨h.1.1, h.1.2, h.2.1, fun l hm => ⟨hl l hm, h.2.2 l hm⟩⟩
theorem pnew {ρ : Cl} {k : Nat} {M : AMem} (hP : P.tb = tr.map Row.l) (ht : TbOk N M tp tr) (hN : N ≤ M.length) (c0 : ∀ z, z < N → ρ z = (0, 0)) (hall : ∀ r ∈ tr, r.l.length ≤ 1000000) (htl : tr.length ≤ 1000000000) :
    (WRt P → ∃ M' ρ' w B, LL.call 10 [lay P.p P.s, .int .i64 P.size, .int .i64 P.room, .slice tp tr.length 0] M = some (pt w, M') ∧ IsP ρ' k N P tp M' w B .new ∧ Ext (fun _ => False) ρ M ρ' M') ∧
    (¬ WRt P → ∃ M', LL.call 10 [lay P.p P.s, .int .i64 P.size, .int .i64 P.room, .slice tp tr.length 0] M = some (.pointer none, M') ∧ Same M M' []) := by
  rw [L_call10, E10]
  have g0 := cells_new M [.int .i64 P.p, .int .i64 P.s] 0
  have s0 := same_app M [AObj.cells [.int .i64 P.p, .int .i64 P.s] ⟨false, 0⟩]
  generalize M ++ [AObj.cells [.int .i64 P.p, .int .i64 P.s] ⟨false, 0⟩] = M0 at g0 s0 ⊢
  have y0 : M0.ld M.length 0 = some (.int .i64 P.p) := g0.ld 0
  have y1 : M0.ld M.length 1 = some (.int .i64 P.s) := g0.ld 1
  have htb : P.tb.length = tr.length := by rw [hP]; simp
  have hall' : (Int.ofNat tr.length) = P.all := by unfold WP.all; rw [htb, ofN]
  rw [bLI y0, bLI y1, bLI y0, bLI y1, hall']
  have hchk : ∀ {M1 M2 : AMem}, Same M0 M1 [] → Same M1 M2 [] → chkOk [(0, 5), (0, 9)] [(0, M.length)] [(9, (M1, M2)), (5, (M0, M1))] = true := fun t1 t2 => by
    have := g0.same t1 (by simp)
    simp [chkOk, List.lookup, ver_same t1 g0.lt (by simp), ver_same t2 this.lt (by simp)]
  by_cases c1 : Rt P.p P.s ∧ 1 ≤ P.room ∧ P.room ≤ 4096
  rotate_left
  · refine ⟨fun h => absurd h.1 c1, fun _ => ?_⟩
    obtain ⟨M1, e1, t1⟩ := cnew_none (p := P.p) (s := P.s) (n := P.room) M0 c1
    rw [bX e1, bP]
    by_cases c2 : Bt.CFit P.all P.size
    · obtain ⟨M2, e2, e3, t2, _⟩ := Bt.bnew_spec c2 M1
      rw [bX e2, bP]
      simp only [hchk t1 t2, if_true]
      have gw := cells_new M2 [.int .i64 P.p, .int .i64 P.s, .int .i64 P.size, .slice tp tr.length 0, .int .i64 0, .int .i64 0, .slice none 0 0, .pointer none, .slice none 0 0, .pointer none, .int .i64 0, .slice none 0 0, pt M1.length, .int .i64 0] 0
      have sw := same_app M2 [AObj.cells [.int .i64 P.p, .int .i64 P.s, .int .i64 P.size, .slice tp tr.length 0, .int .i64 0, .int .i64 0, .slice none 0 0, .pointer none, .slice none 0 0, .pointer none, .int .i64 0, .slice none 0 0, pt M1.length, .int .i64 0] ⟨false, 0⟩]
      generalize M2 ++ [AObj.cells [.int .i64 P.p, .int .i64 P.s, .int .i64 P.size, .slice tp tr.length 0, .int .i64 0, .int .i64 0, .slice none 0 0, .pointer none, .slice none 0 0, .pointer none, .int .i64 0, .slice none 0 0, pt M1.length, .int .i64 0] ⟨false, 0⟩] = M3 at gw sw ⊢
      have l7 : M3.ld M2.length 7 = some (.pointer none) := gw.ld 7
      rw [bLP l7]
      exact ⟨M3, rfl, (((s0.trans t1).trans t2).trans sw).mono (by simp)⟩
    · have t2 := Same.refl M1 []
      rw [bX (Bt.bnew_none c2 M1), bP]
      simp only [hchk t1 t2, if_true]
      have gw := cells_new M1 [.int .i64 P.p, .int .i64 P.s, .int .i64 P.size, .slice tp tr.length 0, .int .i64 0, .int .i64 0, .slice none 0 0, .pointer none, .slice none 0 0, .pointer none, .int .i64 0, .slice none 0 0, .pointer none, .int .i64 0] 0
      have sw := same_app M1 [AObj.cells [.int .i64 P.p, .int .i64 P.s, .int .i64 P.size, .slice tp tr.length 0, .int .i64 0, .int .i64 0, .slice none 0 0, .pointer none, .slice none 0 0, .pointer none, .int .i64 0, .slice none 0 0, .pointer none, .int .i64 0] ⟨false, 0⟩]
      generalize M1 ++ [AObj.cells [.int .i64 P.p, .int .i64 P.s, .int .i64 P.size, .slice tp tr.length 0, .int .i64 0, .int .i64 0, .slice none 0 0, .pointer none, .slice none 0 0, .pointer none, .int .i64 0, .slice none 0 0, .pointer none, .int .i64 0] ⟨false, 0⟩] = M3 at gw sw ⊢
      have l7 : M3.ld M1.length 7 = some (.pointer none) := gw.ld 7
      rw [bLP l7]
      exact ⟨M3, rfl, ((s0.trans t1).trans sw).mono (by simp)⟩
  obtain ⟨M1, b, mp, e1, e2, t1, hb, hmp⟩ := bnew_spec M0 c1.1 c1.2
  rw [bX e1, bP]
  by_cases c2 : Bt.CFit P.all P.size
  rotate_left
  · refine ⟨fun h => absurd h.2.1 c2, fun _ => ?_⟩
    have t2 := Same.refl M1 []
    rw [bX (Bt.bnew_none c2 M1), bP]
    simp only [hchk t1 t2, if_true]
    have gw := cells_new M1 [.int .i64 P.p, .int .i64 P.s, .int .i64 P.size, .slice tp tr.length 0, .int .i64 0, .int .i64 0, .slice none 0 0, pt b, .slice none 0 0, .pointer none, .int .i64 0, .slice none 0 0, .pointer none, .int .i64 0] 0
    have sw := same_app M1 [AObj.cells [.int .i64 P.p, .int .i64 P.s, .int .i64 P.size, .slice tp tr.length 0, .int .i64 0, .int .i64 0, .slice none 0 0, pt b, .slice none 0 0, .pointer none, .int .i64 0, .slice none 0 0, .pointer none, .int .i64 0] ⟨false, 0⟩]
    generalize M1 ++ [AObj.cells [.int .i64 P.p, .int .i64 P.s, .int .i64 P.size, .slice tp tr.length 0, .int .i64 0, .int .i64 0, .slice none 0 0, pt b, .slice none 0 0, .pointer none, .int .i64 0, .slice none 0 0, .pointer none, .int .i64 0] ⟨false, 0⟩] = M3 at gw sw ⊢
    have l7 : M3.ld M1.length 7 = some (pt b) := gw.ld 7
    have l12 : M3.ld M1.length 12 = some (.pointer none) := gw.ld 12
    rw [bLP l7, show Option.isNone (some (⟨b, 0, none⟩ : Addr)) = false from rfl, ifF, bLP l12]
    exact ⟨M3, rfl, ((s0.trans t1).trans sw).mono (by simp)⟩
  obtain ⟨M2, e3, e4, t2, n2⟩ := Bt.bnew_spec c2 M1
  rw [bX e3, bP]
  simp only [hchk t1 t2, if_true]
  have gw := cells_new M2 [.int .i64 P.p, .int .i64 P.s, .int .i64 P.size, .slice tp tr.length 0, .int .i64 0, .int .i64 0, .slice none 0 0, pt b, .slice none 0 0, .pointer none, .int .i64 0, .slice none 0 0, pt M1.length, .int .i64 0] 0
  have sw := same_app M2 [AObj.cells [.int .i64 P.p, .int .i64 P.s, .int .i64 P.size, .slice tp tr.length 0, .int .i64 0, .int .i64 0, .slice none 0 0, pt b, .slice none 0 0, .pointer none, .int .i64 0, .slice none 0 0, pt M1.length, .int .i64 0] ⟨false, 0⟩]
  generalize M2 ++ [AObj.cells [.int .i64 P.p, .int .i64 P.s, .int .i64 P.size, .slice tp tr.length 0, .int .i64 0, .int .i64 0, .slice none 0 0, pt b, .slice none 0 0, .pointer none, .int .i64 0, .slice none 0 0, pt M1.length, .int .i64 0] ⟨false, 0⟩] = M3 at gw sw ⊢
  have l7 : M3.ld M2.length 7 = some (pt b) := gw.ld 7
  have l12 : M3.ld M2.length 12 = some (pt M1.length) := gw.ld 12
  have t03 : Same M0 M3 [] := ((t1.trans t2).trans sw).mono (by simp)
  have t3 : Same M M3 [] := (s0.trans t03).mono (by simp)
  rw [bLP l7, show Option.isNone (some (⟨b, 0, none⟩ : Addr)) = false from rfl, ifF, bLP l12, show Option.isNone (some (⟨M1.length, 0, none⟩ : Addr)) = false from rfl, ifF]
  obtain ⟨a1, a2⟩ := pn_tab (x4 := M.length) (x9 := M2.length) (tc := 0) (P := P) c1.1 hall htl tr.length 0 M3 (by omega) (ht.same t3 (by simp)) (g0.rd.same t03 (by simp))
  rw [List.drop_zero] at a1 a2
  have hall2 : (∀ l ∈ P.tb, ∀ x ∈ l, SpOk P x) ↔ ∀ r ∈ tr, ∀ x ∈ r.l, SpOk P x := by
    rw [hP]; simp
  have htl' : P.all = (tr.length : Int) := by rw [← hall', ofN]
  rw [htl']
  refine ⟨fun h => ?_, fun h => ?_⟩
  · obtain ⟨M4, e5, t4⟩ := a1 (hall2.1 h.2.2)
    have t24 : Same M2 M4 [] := (sw.trans t4).mono (by simp)
    have t14 : Same M1 M4 [] := (t2.trans t24).mono (by simp)
    have tt : Same M M4 [] := (t3.trans t4).mono (by simp)
    have le0 := s0.le
    have le1 := t1.le
    have le2 := t2.le
    refine ⟨M4, upd ρ M.length fun z => if z = M2.length then (k, 0) else if z = M1.length then (k, 5) else (k, 1), M2.length, ⟨b, mp, none, 0, none, 0, none, 0, 0, none, 0, none, 0, M1.length⟩, e5, ?_, Ext.upd tt (fun z hz => by simp at hz) _⟩
    have nb := e2.lt b (by simp [bufB])
    have nmp := e2.lt mp (by simp [bufB])
    refine ⟨?_, ?_, e2.same t14 (by simp), fun z hz => ?_, View.nil, fun h => absurd rfl h, View.nil, Col.nil _, fun h => (by cases h), fun _ => ⟨e4.same t24 (by simp), ?_⟩, Nat.le_trans hN tt.le, fun z hz => ?_⟩
    · have : encW P tp ⟨b, mp, none, 0, none, 0, none, 0, 0, none, 0, none, 0, M1.length⟩ .new = [.int .i64 P.p, .int .i64 P.s, .int .i64 P.size, .slice tp tr.length 0, .int .i64 0, .int .i64 0, .slice none 0 0, pt b, .slice none 0 0, .pointer none, .int .i64 0, .slice none 0 0, pt M1.length, .int .i64 0] := by
        unfold encW; rw [htb]; rfl
      rw [this]
      exact gw.same t4 (by simp)
    · rw [upd_ge (by omega), if_pos rfl]
    · have hz' : z = b ∨ z = mp := by simpa [bufB] using hz
      refine ⟨?_, ?_⟩
      · have := t14.le
        rcases hz' with rfl | rfl <;> omega
      · rw [upd_ge (by rcases hz' with rfl | rfl <;> omega), if_neg (by rcases hz' with rfl | rfl <;> omega), if_neg (by rcases hz' with rfl | rfl <;> omega)]
    · show upd _ _ _ M1.length = _
      rw [upd_ge (by omega), if_neg (by omega), if_pos rfl]
    · rw [upd_lt (by omega)]; exact c0 z hz
  · obtain ⟨M4, e5, t4⟩ := a2 (fun hh => h ⟨c1, c2, hall2.2 hh⟩)
    exact ⟨M4, e5, (t3.trans t4).mono (by simp)⟩
end
theorem rnew32 {p s n : Int} (M : AMem) (hr : Rt p s) (hn : 1 ≤ n ∧ n ≤ 4096) :
    ∃ M', LL.call 34 [lay p s, .int .i64 n] M = some (.tuple #[.agg #[.int .i64 p, .int .i64 s, .int .i64 n, .slice none 0 0], .bool true], M') ∧ Same M M' [] := by
  rw [L_call34, E34]
  have g0 := cells_new M [.int .i64 p, .int .i64 s] 0
  have s0 := same_app M [AObj.cells [.int .i64 p, .int .i64 s] ⟨false, 0⟩]
  generalize M ++ [AObj.cells [.int .i64 p, .int .i64 s] ⟨false, 0⟩] = M0 at g0 s0 ⊢
  have g1 := cells_new M0 [.int .i64 0, .int .i64 0, .int .i64 0, .slice none 0 0] 0
  have s1 := same_app M0 [AObj.cells [.int .i64 0, .int .i64 0, .int .i64 0, .slice none 0 0] ⟨false, 0⟩]
  generalize M0 ++ [AObj.cells [.int .i64 0, .int .i64 0, .int .i64 0, .slice none 0 0] ⟨false, 0⟩] = M1 at g1 s1 ⊢
  have h0 := g0.same s1 (by simp)
  have y0 : M1.ld M.length 0 = some (.int .i64 p) := h0.ld 0
  have y1 : M1.ld M.length 1 = some (.int .i64 s) := h0.ld 1
  obtain ⟨_, k⟩ := right12_spec p s
  obtain ⟨M2, w1, w2, w3, w4⟩ := g1.wr (o := 0) (vs := [.int .i64 p, .int .i64 s, .int .i64 n, .slice none 0 0]) (by exact (by decide : 0 + 4 ≤ 4))
  have w2' : Cells M2 M0.length [.int .i64 p, .int .i64 s, .int .i64 n, .slice none 0 0] := w2
  have z0 : M2.ld M0.length 0 = some (.int .i64 p) := w2'.ld 0
  have z1 : M2.ld M0.length 1 = some (.int .i64 s) := w2'.ld 1
  have z2 : M2.ld M0.length 2 = some (.int .i64 n) := w2'.ld 2
  have z3 : M2.ld M0.length 3 = some (.slice none 0 0) := w2'.ld 3
  rw [bLI y0, bLI y1, bX k, bB, decide_eq_true hr, ifNT, ifDn (by omega), ifDn (by omega), bLI y0, bLI y1, bX w1, bLI z0, bLI z1, bLI z2, bLS z3]
  exact ⟨M2, rfl, ((s0.trans s1).trans w3).mono' (fun b hb hl => by simp at hb; have := s0.le; omega)⟩
def zV8 : V8 := ⟨.int .i64 0, .slice none 0 0, .int .i64 0, .slice none 0 0, .int .i64 0, .bool false, .int .u64 0, .int .i64 0⟩
def newDB (P : WP) : DB := ⟨none, 0, none, 0, none, 0, zV8, clmV P .new, none, 0, 0, 0⟩
def zD : List Value := [.int .i64 0, .int .i64 0, .int .i64 0, .slice none 0 0, .int .i64 0, .int .i64 0, .slice none 0 0, .int .i64 0, .int .i64 0, .int .i64 0, .slice none 0 0, .slice none 0 0, .bool false, .int .i64 0, .slice none 0 0, .int .i64 0, .slice none 0 0, .int .i64 0, .bool false, .int .u64 0, .int .i64 0, .int .i64 0, .int .i64 0, .int .i64 0, .bool false, .bool false, .int .u64 0, .int .i64 0, .int .i64 0, .bool false, .int .i64 0]
theorem dnew {P : WP} {tp : Option Addr} {tn : Nat} (M : AMem) (hP : WPok P) (htn : P.tb.length = tn) :
    ∃ M', LL.call 14 [lay P.p P.s, .int .i64 P.size, .int .i64 P.room, .slice tp tn 0] M = some (.agg (encD P tp (newDB P) .new).toArray, M') ∧ Same M M' [] := by
  subst htn
  rw [L_call14, E14]
  have g0 := cells_new M [.int .i64 P.p, .int .i64 P.s] 0
  have s0 := same_app M [AObj.cells [.int .i64 P.p, .int .i64 P.s] ⟨false, 0⟩]
  generalize M ++ [AObj.cells [.int .i64 P.p, .int .i64 P.s] ⟨false, 0⟩] = M0 at g0 s0 ⊢
  have g1 := cells_new M0 zD 0
  have s1 := same_app M0 [AObj.cells zD ⟨false, 0⟩]
  unfold zD at g1 s1
  generalize M0 ++ [AObj.cells [.int .i64 0, .int .i64 0, .int .i64 0, .slice none 0 0, .int .i64 0, .int .i64 0, .slice none 0 0, .int .i64 0, .int .i64 0, .int .i64 0, .slice none 0 0, .slice none 0 0, .bool false, .int .i64 0, .slice none 0 0, .int .i64 0, .slice none 0 0, .int .i64 0, .bool false, .int .u64 0, .int .i64 0, .int .i64 0, .int .i64 0, .int .i64 0, .bool false, .bool false, .int .u64 0, .int .i64 0, .int .i64 0, .bool false, .int .i64 0] ⟨false, 0⟩] = M1 at g1 s1 ⊢
  have h0 := g0.same s1 (by simp)
  have y0 : M1.ld M.length 0 = some (.int .i64 P.p) := h0.ld 0
  have y1 : M1.ld M.length 1 = some (.int .i64 P.s) := h0.ld 1
  obtain ⟨M2, e2, t2⟩ := rnew32 M1 hP.rt hP.rm
  obtain ⟨_, n1⟩ := Bt.rnewc_spec hP.cf
  have n1' : LL.call 35 [.int .i64 (Int.ofNat P.tb.length), .int .i64 P.size] [] = some (.tuple #[.agg #[.int .i64 P.all, .int .i64 P.size, .int .i64 0, .bool false, .bool false, .int .u64 0, .int .i64 0, .int .i64 0], .bool true], _) := n1
  rw [bLI y0, bLI y1, bX e2, bT2, bG0, bA4, bI0, bI1, bI2]
  show ∃ M', (Option.bind (sliceOf? (some (.slice none 0 0))) fun s_10 => _) = _ ∧ _
  rw [bS, bG1, bB]
  have g3 := cells_new M2 [.int .i64 0, .int .i64 0, .int .i64 0, .slice none 0 0] 0
  have s3 := same_app M2 [AObj.cells [.int .i64 0, .int .i64 0, .int .i64 0, .slice none 0 0] ⟨false, 0⟩]
  simp only
  generalize M2 ++ [AObj.cells [.int .i64 0, .int .i64 0, .int .i64 0, .slice none 0 0] ⟨false, 0⟩] = M3 at g3 s3 ⊢
  obtain ⟨M4, w1, w2, w3, w4⟩ := g3.wr (o := 0) (vs := [.int .i64 P.p, .int .i64 P.s, .int .i64 P.room, .slice none 0 0]) (by exact (by decide : 0 + 4 ≤ 4))
  have w2' : Cells M4 M2.length [.int .i64 P.p, .int .i64 P.s, .int .i64 P.room, .slice none 0 0] := w2
  rw [bX w1, bX n1', bT2, bG0, bA8, bI0, bI1, bI2, bB3, bB4, bI5', bI6, bI7, bG1, bB]
  have g5 := cells_new M4 [.int .i64 0, .int .i64 0, .int .i64 0, .bool false, .bool false, .int .u64 0, .int .i64 0, .int .i64 0] 0
  have s5 := same_app M4 [AObj.cells [.int .i64 0, .int .i64 0, .int .i64 0, .bool false, .bool false, .int .u64 0, .int .i64 0, .int .i64 0] ⟨false, 0⟩]
  generalize M4 ++ [AObj.cells [.int .i64 0, .int .i64 0, .int .i64 0, .bool false, .bool false, .int .u64 0, .int .i64 0, .int .i64 0] ⟨false, 0⟩] = M5 at g5 s5 ⊢
  obtain ⟨M6, v1, v2, v3, v4⟩ := g5.wr (o := 0) (vs := [.int .i64 P.all, .int .i64 P.size, .int .i64 0, .bool false, .bool false, .int .u64 0, .int .i64 0, .int .i64 0]) (by exact (by decide : 0 + 8 ≤ 8))
  have v2' : Cells M6 M4.length [.int .i64 P.all, .int .i64 P.size, .int .i64 0, .bool false, .bool false, .int .u64 0, .int .i64 0, .int .i64 0] := v2
  have le0 := s0.le
  have le1 := s1.le
  have le2 := t2.le
  have le3 := s3.le
  have le5 := s5.le
  have l0 := g0.lt
  have l1 := g1.lt
  have l3 := g3.lt
  have t16 : Same M1 M6 [] := (((t2.trans s3).trans w3).trans (s5.trans v3)).mono' (fun b hb hl => by
    simp at hb; have := w4; omega)
  have q := h0.same t16 (by simp)
  have q1 := g1.same t16 (by simp)
  have w6 := (w2'.same s5 (by simp)).same v3 (by simp; have := w4; omega)
  have i0 : M6.ld M.length 0 = some (.int .i64 P.p) := q.ld 0
  have i1 : M6.ld M.length 1 = some (.int .i64 P.s) := q.ld 1
  have j0 : M6.ld M2.length 0 = some (.int .i64 P.p) := w6.ld 0
  have j1 : M6.ld M2.length 1 = some (.int .i64 P.s) := w6.ld 1
  have j2 : M6.ld M2.length 2 = some (.int .i64 P.room) := w6.ld 2
  have j3 : M6.ld M2.length 3 = some (.slice none 0 0) := w6.ld 3
  have k0 : M6.ld M4.length 0 = some (.int .i64 P.all) := v2'.ld 0
  have k1 : M6.ld M4.length 1 = some (.int .i64 P.size) := v2'.ld 1
  have k2 : M6.ld M4.length 2 = some (.int .i64 0) := v2'.ld 2
  have k3 : M6.ld M4.length 3 = some (.bool false) := v2'.ld 3
  have k4 : M6.ld M4.length 4 = some (.bool false) := v2'.ld 4
  have k5 : M6.ld M4.length 5 = some (.int .u64 0) := v2'.ld 5
  have k6 : M6.ld M4.length 6 = some (.int .i64 0) := v2'.ld 6
  have k7 : M6.ld M4.length 7 = some (.int .i64 0) := v2'.ld 7
  rw [bX v1, bLI i0, bLI i1, bLI j0, bLI j1, bLI j2, bLS j3, bLI k0, bLI k1, bLI k2, bLB k3, bLB k4, bLI k5, bLI k6, bLI k7]
  obtain ⟨M7, u1, u2, u3, u4⟩ := q1.wr (o := 0) (vs := encD P tp (newDB P) .new) (by exact (by decide : 0 + 31 ≤ 31))
  have u1' : AMem.wr M6 M0.length 0 [.int .i64 P.p, .int .i64 P.s, .int .i64 P.size, .slice tp P.tb.length 0, .int .i64 0, .int .i64 0, .slice none 0 0, .int .i64 P.p, .int .i64 P.s, .int .i64 P.room, .slice none 0 0, .slice none 0 0, .bool false, .int .i64 0, .slice none 0 0, .int .i64 0, .slice none 0 0, .int .i64 0, .bool false, .int .u64 0, .int .i64 0, .int .i64 P.all, .int .i64 P.size, .int .i64 0, .bool false, .bool false, .int .u64 0, .int .i64 0, .int .i64 0, .bool false, .int .i64 0] = some M7 := u1
  have u2' : Cells M7 M0.length (encD P tp (newDB P) .new) := by
    have hl : ∀ cs : List Value, cs.length = 31 → wrL cs 0 (encD P tp (newDB P) .new) = encD P tp (newDB P) .new := fun cs h => take_wrL _ _ (by rw [encD_length, h])
    rw [hl _ rfl] at u2; exact u2
  have a0 : M7.ld M0.length 0 = some (.int .i64 P.p) := u2'.ld 0
  have a1 : M7.ld M0.length 1 = some (.int .i64 P.s) := u2'.ld 1
  have a2 : M7.ld M0.length 2 = some (.int .i64 P.size) := u2'.ld 2
  have a3 : M7.ld M0.length 3 = some (.slice tp P.tb.length 0) := u2'.ld 3
  have a4 : M7.ld M0.length 4 = some (.int .i64 0) := u2'.ld 4
  have a5 : M7.ld M0.length 5 = some (.int .i64 0) := u2'.ld 5
  have a6 : M7.ld M0.length 6 = some (.slice none 0 0) := u2'.ld 6
  have a7 : M7.ld M0.length 7 = some (.int .i64 P.p) := u2'.ld 7
  have a8 : M7.ld M0.length 8 = some (.int .i64 P.s) := u2'.ld 8
  have a9 : M7.ld M0.length 9 = some (.int .i64 P.room) := u2'.ld 9
  have a10 : M7.ld M0.length 10 = some (.slice none 0 0) := u2'.ld 10
  have a11 : M7.ld M0.length 11 = some (.slice none 0 0) := u2'.ld 11
  have a12 : M7.ld M0.length 12 = some (.bool false) := u2'.ld 12
  have a13 : M7.ld M0.length 13 = some (.int .i64 0) := u2'.ld 13
  have a14 : M7.ld M0.length 14 = some (.slice none 0 0) := u2'.ld 14
  have a15 : M7.ld M0.length 15 = some (.int .i64 0) := u2'.ld 15
  have a16 : M7.ld M0.length 16 = some (.slice none 0 0) := u2'.ld 16
  have a17 : M7.ld M0.length 17 = some (.int .i64 0) := u2'.ld 17
  have a18 : M7.ld M0.length 18 = some (.bool false) := u2'.ld 18
  have a19 : M7.ld M0.length 19 = some (.int .u64 0) := u2'.ld 19
  have a20 : M7.ld M0.length 20 = some (.int .i64 0) := u2'.ld 20
  have a21 : M7.ld M0.length 21 = some (.int .i64 P.all) := u2'.ld 21
  have a22 : M7.ld M0.length 22 = some (.int .i64 P.size) := u2'.ld 22
  have a23 : M7.ld M0.length 23 = some (.int .i64 0) := u2'.ld 23
  have a24 : M7.ld M0.length 24 = some (.bool false) := u2'.ld 24
  have a25 : M7.ld M0.length 25 = some (.bool false) := u2'.ld 25
  have a26 : M7.ld M0.length 26 = some (.int .u64 0) := u2'.ld 26
  have a27 : M7.ld M0.length 27 = some (.int .i64 0) := u2'.ld 27
  have a28 : M7.ld M0.length 28 = some (.int .i64 0) := u2'.ld 28
  have a29 : M7.ld M0.length 29 = some (.bool false) := u2'.ld 29
  have a30 : M7.ld M0.length 30 = some (.int .i64 0) := u2'.ld 30
  rw [bX u1', bLI a0, bLI a1, bLI a2, bLS a3, bLI a4, bLI a5, bLS a6, bLI a7, bLI a8, bLI a9, bLS a10, bLS a11, bLB a12, bLI a13, bLS a14, bLI a15, bLS a16, bLI a17, bLB a18, bLI a19, bLI a20, bLI a21, bLI a22, bLI a23, bLB a24, bLB a25, bLI a26, bLI a27, bLI a28, bLB a29, bLI a30]
  exact ⟨M7, rfl, (((s0.trans s1).trans t16).trans u3).mono' (fun b hb hl => by simp at hb; omega)⟩
section
variable {N x4 : Nat} {P : WP} {tp : Option Addr} {tr : List Row}
theorem dr_row {r : Row} {z i : Nat} (hl : r.l.length ≤ 1000000) (hri : tr[i]? = some r) : ∀ (d j : Nat) (M : AMem), j + d = r.l.length → TbOk N M tp tr → Rd M x4 [.int .i64 P.p, .int .i64 P.s] →
    ((∀ x ∈ r.l.drop j, SpOk P x) → ∃ M', P12_26 LL tp tr.length 0 x4 (i : Int) (j : Int) M = P12_45 LL tp tr.length 0 x4 (i : Int) M' ∧ Same M M' []) ∧
    ((¬ ∀ x ∈ r.l.drop j, SpOk P x) → ∃ M', P12_26 LL tp tr.length 0 x4 (i : Int) (j : Int) M = some (.bool false, M') ∧ Same M M' []) := by
  have hil : i < tr.length := (ges.1 hri).1
  have hrm := List.mem_of_getElem? hri
  have hgi : (0 : Int) ≤ (i : Int) ∧ (i : Int) < Int.ofNat tr.length := by rw [ofN]; omega
  intro d
  induction d with
  | zero =>
    intro j M hj ht h4
    obtain ⟨zt, ez, lz⟩ := ht.ld hri
    rw [P12_26_eq LL L_loop, ez]
    simp only [↓if_pos hgi, Nat.zero_add, Int.toNat_natCast]
    rw [bLS lz, ifDn (by simp only [ofN]; omega), ← ez]
    refine ⟨fun _ => ⟨M, rfl, .refl _ _⟩, fun h => ?_⟩
    rw [List.drop_eq_nil_of_le (by omega)] at h
    exact absurd (fun x hx => by simp at hx) h
  | succ d ih =>
    intro j M hj ht h4
    have hjl : j < r.l.length := by omega
    obtain ⟨x, hx⟩ : ∃ x, r.l[j]? = some x := ⟨_, gee hjl⟩
    have hxe : r.l[j] = x := by have := gee hjl; rw [hx] at this; exact (Option.some.inj this).symm
    obtain ⟨zt, ezt, lz⟩ := ht.ld hri
    obtain ⟨z, ez, hz⟩ := (ht.rows r hrm).2 (by omega)
    have hg : (0 : Int) ≤ (j : Int) ∧ (j : Int) < Int.ofNat r.l.length := by rw [ofN]; omega
    have hw : IntKind.wrap .i64 ((j : Int) + 1) = ((j + 1 : Nat) : Int) := by rw [w64 (by omega)]; rfl
    have q : ∀ o v, o < 4 → (encS x)[o]? = some v → M.ld z (j * 4 + o) = some v := fun o v ho hv => by rw [hz.ld, flat_get encS_length r.l j o x hx ho, hv]
    have y0 : M.ld z (j * 4) = some (.int .i64 x.px) := q 0 _ (by decide) rfl
    have y1 : M.ld z (j * 4 + 1) = some (.int .i64 x.r) := q 1 _ (by decide) rfl
    have y2 : M.ld z (j * 4 + 2) = some (.int .i64 x.g) := q 2 _ (by decide) rfl
    have y3 : M.ld z (j * 4 + 3) = some (.int .i64 x.b) := q 3 _ (by decide) rfl
    rw [P12_26_eq LL L_loop, ezt]
    simp only [↓if_pos hgi, Nat.zero_add, Int.toNat_natCast]
    rw [bLS lz, ifD (by simp only [ofN]; omega), bLS lz]
    simp only
    rw [ez]
    simp only [↓if_pos hg, Nat.zero_add]
    have g1 := cells_new M [.int .i64 0, .int .i64 0, .int .i64 0, .int .i64 0] 0
    have s1 := same_app M [AObj.cells [.int .i64 0, .int .i64 0, .int .i64 0, .int .i64 0] ⟨false, 0⟩]
    rw [bLI y0, bLI y1, bLI y2, bLI y3]
    generalize M ++ [AObj.cells [.int .i64 0, .int .i64 0, .int .i64 0, .int .i64 0] ⟨false, 0⟩] = M1 at g1 s1 ⊢
    obtain ⟨M2, w1, w2, w3, w4⟩ := g1.wr (o := 0) (vs := encS x) (by exact (by decide : 0 + 4 ≤ 4))
    have w2' : Cells M2 M.length (encS x) := w2
    have t2 : Same M M2 [] := (s1.trans w3).mono' (fun b hb hlt => by simp at hb; omega)
    have h42 := h4.same t2 (by simp)
    have v0 : M2.ld x4 0 = some (.int .i64 P.p) := h42.ld 0
    have u0 : M2.ld M.length 0 = some (.int .i64 x.px) := w2'.ld 0
    have u1 : M2.ld M.length 1 = some (.int .i64 x.r) := w2'.ld 1
    have u2 : M2.ld M.length 2 = some (.int .i64 x.g) := w2'.ld 2
    have u3 : M2.ld M.length 3 = some (.int .i64 x.b) := w2'.ld 3
    obtain ⟨_, k2⟩ := rweight_spec x.r x.g x.b
    obtain ⟨i1, i2⟩ := ih (j + 1) M2 (by omega) (ht.same t2 (by simp)) h42
    have hdrop : r.l.drop j = x :: r.l.drop (j + 1) := by rw [List.drop_eq_getElem_cons hjl, hxe]
    rw [hdrop]
    have hw1 : AMem.wr M1 M.length 0 [.int .i64 x.px, .int .i64 x.r, .int .i64 x.g, .int .i64 x.b] = some M2 := w1
    rw [bX hw1, bLI u0]
    by_cases c1 : x.px < 0
    · rw [ifD c1]
      exact ⟨fun h => absurd (h x (by simp)).1.1 (by omega), fun _ => ⟨M2, rfl, t2⟩⟩
    rw [ifDn c1, bLI u0, bLI v0]
    by_cases c2 : x.px ≥ P.p
    · rw [ifD c2]
      exact ⟨fun h => absurd (h x (by simp)).1.2 (by omega), fun _ => ⟨M2, rfl, t2⟩⟩
    rw [ifDn c2, bLI u1, bLI u2, bLI u3, bX k2, bB]
    by_cases c3 : Wt x.r x.g x.b
    · rw [decide_eq_true c3, ifNT, P12_44_eq, hw, ← ezt]
      refine ⟨fun h => ?_, fun h => ?_⟩
      · obtain ⟨M', e, t⟩ := i1 (fun y hy => h y (by simp [hy]))
        exact ⟨M', e, (t2.trans t).mono (by simp)⟩
      · obtain ⟨M', e, t⟩ := i2 (fun hh => h (fun y hy => by
          rcases List.mem_cons.1 hy with rfl | hy
          · exact ⟨⟨by omega, by omega⟩, c3⟩
          · exact hh y hy))
        exact ⟨M', e, (t2.trans t).mono (by simp)⟩
    · rw [decide_eq_false c3, ifNF]
      exact ⟨fun h => absurd (h x (by simp)).2 c3, fun _ => ⟨M2, rfl, t2⟩⟩
theorem dr_tab (hall : ∀ r ∈ tr, r.l.length ≤ 1000000) (htl : tr.length ≤ 1000000000) : ∀ (d i : Nat) (M : AMem), i + d = tr.length → TbOk N M tp tr → Rd M x4 [.int .i64 P.p, .int .i64 P.s] →
    ((∀ r ∈ tr.drop i, ∀ x ∈ r.l, SpOk P x) → ∃ M', P12_14 LL tp tr.length 0 x4 (i : Int) M = some (.bool true, M') ∧ Same M M' []) ∧
    ((¬ ∀ r ∈ tr.drop i, ∀ x ∈ r.l, SpOk P x) → ∃ M', P12_14 LL tp tr.length 0 x4 (i : Int) M = some (.bool false, M') ∧ Same M M' []) := by
  intro d
  induction d with
  | zero =>
    intro i M hi ht h4
    rw [P12_14_eq LL L_loop, ifDn (by rw [ofN]; omega), P12_46_eq]
    refine ⟨fun _ => ⟨M, rfl, .refl _ _⟩, fun h => ?_⟩
    rw [List.drop_eq_nil_of_le (by omega)] at h
    exact absurd (fun x hx => by simp at hx) h
  | succ d ih =>
    intro i M hi ht h4
    have hil : i < tr.length := by omega
    obtain ⟨r, hr⟩ : ∃ r, tr[i]? = some r := ⟨_, gee hil⟩
    have hre : tr[i] = r := by have := gee hil; rw [hr] at this; exact (Option.some.inj this).symm
    have hrm := List.mem_of_getElem? hr
    have hw : IntKind.wrap .i64 ((i : Int) + 1) = ((i + 1 : Nat) : Int) := by rw [w64 (by omega)]; rfl
    rw [P12_14_eq LL L_loop, ifD (by rw [ofN]; omega)]
    obtain ⟨a1, a2⟩ := dr_row (z := 0) (x4 := x4) (P := P) (hall r hrm) hr r.l.length 0 M (by omega) ht h4
    have hdrop : tr.drop i = r :: tr.drop (i + 1) := by rw [List.drop_eq_getElem_cons hil, hre]
    rw [hdrop]
    rw [List.drop_zero] at a1 a2
    by_cases hok : ∀ x ∈ r.l, SpOk P x
    · obtain ⟨M1, e1, t1⟩ := a1 hok
      obtain ⟨i1, i2⟩ := ih (i + 1) M1 (by omega) (ht.same t1 (by simp)) (h4.same t1 (by simp))
      have e1' : P12_26 LL tp tr.length 0 x4 (i : Int) 0 M = _ := e1
      rw [e1', P12_45_eq, hw]
      refine ⟨fun h => ?_, fun h => ?_⟩
      · obtain ⟨M', e, t⟩ := i1 (fun y hy => h y (by simp [hy]))
        exact ⟨M', e, (t1.trans t).mono (by simp)⟩
      · obtain ⟨M', e, t⟩ := i2 (fun hh => h (fun y hy => by
          rcases List.mem_cons.1 hy with rfl | hy
          · exact hok
          · exact hh y hy))
        exact ⟨M', e, (t1.trans t).mono (by simp)⟩
    · obtain ⟨M1, e1, t1⟩ := a2 hok
      exact ⟨fun h => absurd (h r (by simp)) hok, fun _ => ⟨M1, e1, t1⟩⟩
theorem dright {M : AMem} (hP : P.tb = tr.map Row.l) (ht : TbOk N M tp tr) (hall : ∀ r ∈ tr, r.l.length ≤ 1000000) (htl : tr.length ≤ 1000000000) :
    (WRt P → ∃ M', LL.call 12 [lay P.p P.s, .int .i64 P.size, .int .i64 P.room, .slice tp tr.length 0] M = some (.bool true, M') ∧ Same M M' []) ∧
    (¬ WRt P → ∃ M', LL.call 12 [lay P.p P.s, .int .i64 P.size, .int .i64 P.room, .slice tp tr.length 0] M = some (.bool false, M') ∧ Same M M' []) := by
  rw [L_call12, E12]
  have g0 := cells_new M [.int .i64 P.p, .int .i64 P.s] 0
  have s0 := same_app M [AObj.cells [.int .i64 P.p, .int .i64 P.s] ⟨false, 0⟩]
  generalize M ++ [AObj.cells [.int .i64 P.p, .int .i64 P.s] ⟨false, 0⟩] = M0 at g0 s0 ⊢
  have y0 : M0.ld M.length 0 = some (.int .i64 P.p) := g0.ld 0
  have y1 : M0.ld M.length 1 = some (.int .i64 P.s) := g0.ld 1
  have htb : P.tb.length = tr.length := by rw [hP]; simp
  have hall' : (Int.ofNat tr.length) = P.all := by unfold WP.all; rw [htb, ofN]
  have a0 : 0 ≤ P.all := by rw [← hall', ofN]; omega
  obtain ⟨_, k⟩ := right12_spec P.p P.s
  rw [bLI y0, bLI y1, bX k, bB, hall']
  have no : ¬ WRt P → ∃ M', some (Value.bool false, M0) = some (.bool false, M') ∧ Same M M' [] := fun _ => ⟨M0, rfl, s0⟩
  have bad : ∀ {α : Prop}, ¬ WRt P → WRt P → α := fun h k => absurd k h
  by_cases c0 : Rt P.p P.s
  rotate_left
  · rw [decide_eq_false c0, ifNF]; exact ⟨bad fun h => c0 h.1.1, no⟩
  rw [decide_eq_true c0, ifNT]
  by_cases c1 : P.all > 1048576
  · rw [ifD c1]; exact ⟨bad fun h => by have := h.2.1.a1; omega, no⟩
  rw [ifDn c1]
  by_cases c2 : P.size < 1
  · rw [ifD c2]; exact ⟨bad fun h => by have := h.2.1.s0; omega, no⟩
  rw [ifDn c2]
  by_cases c3 : P.size > 65536
  · rw [ifD c3]; exact ⟨bad fun h => by have := h.2.1.s1; omega, no⟩
  rw [ifDn c3]
  by_cases c4 : P.room < 1
  · rw [ifD c4]; exact ⟨bad fun h => by have := h.1.2.1; omega, no⟩
  rw [ifDn c4]
  by_cases c5 : P.room > 4096
  · rw [ifD c5]; exact ⟨bad fun h => by have := h.1.2.2; omega, no⟩
  rw [ifDn c5]
  obtain ⟨a1, a2⟩ := dr_tab (x4 := M.length) (P := P) hall htl tr.length 0 M0 (by omega) (ht.same s0 (by simp)) g0.rd
  rw [List.drop_zero] at a1 a2
  have hall2 : (∀ l ∈ P.tb, ∀ x ∈ l, SpOk P x) ↔ ∀ r ∈ tr, ∀ x ∈ r.l, SpOk P x := by
    rw [hP]; simp
  refine ⟨fun h => ?_, fun h => ?_⟩
  · obtain ⟨M1, e, t⟩ := a1 (hall2.1 h.2.2)
    exact ⟨M1, e, (s0.trans t).mono (by simp)⟩
  · obtain ⟨M1, e, t⟩ := a2 (fun hh => h ⟨⟨c0, by omega, by omega⟩, ⟨a0, by omega, by omega, by omega⟩, hall2.2 hh⟩)
    exact ⟨M1, e, (s0.trans t).mono (by simp)⟩
end
structure Wk where
  w : Nat
  B : PB
  D : DB
  σ : WS
def encX (P : WP) (tp : Option Addr) (x : Wk) : List Value := encD P tp x.D x.σ
theorem encX_length (P : WP) (tp : Option Addr) (x : Wk) : (encX P tp x).length = 31 := encD_length P tp x.D x.σ
structure GC (N : Nat) (P : WP) (tr : List Row) (mb ma mr : Nat) : Prop where
  tb : P.tb = tr.map Row.l
  ok : WPok P
theorem GC.pc {N : Nat} {P : WP} {tr : List Row} {mb ma mr : Nat} (h : GC N P tr mb ma mr) (k : Nat) : PC (k + 2) P tr := ⟨⟨by omega, by omega⟩, h.tb, h.ok⟩
structure AllS (N : Nat) (P : WP) (tp : Option Addr) (tr : List Row) (mb ma mr : Nat) (p : Option Addr) (c ao rb n : Nat) (ρ : Cl) (M : AMem) (l : List Wk) (L : List Int) (st wi wi' : Nat) : Prop where
  ps : ∀ i x, l[i]? = some x → IsP ρ (2 * i + 2) N P tp M x.w x.B x.σ
  ar : Cells M ao (l.flatMap fun x => [pt x.w])
  ca : ρ ao = (1, 3)
  rw : Cells M rb (l.flatMap (encX P tp))
  cr : ρ rb = (1, 1)
  ds : ∀ i x, l[i]? = some x → RsD ρ (2 * i + 1 + 2) N P M x.D x.σ
  ok : ∀ x ∈ l, WOk P n x.σ
  tb : TbOk N M tp tr
  mm : IsMem M mb ma L st wi
  hc : ρ mb = (1, 0) ∧ ρ ma = (1, 0)
  rr : IsRef M mr p c L st wi'
  hr : ρ mr = (1, 2) ∧ Col M ρ (blk p) (1, 2)
  lo : LOk P L
  n : st ≤ n ∧ wi ≤ n ∧ wi' ≤ n
  c0 : ∀ z, z < N → ρ z = (0, 0)
section
variable {N : Nat} {P : WP} {tp : Option Addr} {tr : List Row} {mb ma mr : Nat} {p : Option Addr} {c ao rb n : Nat} {ρ ρ' : Cl} {M M' : AMem} {l : List Wk} {L : List Int} {st wi wi' : Nat}
theorem AllS.ext {K : Nat × Nat → Prop} (h : AllS N P tp tr mb ma mr p c ao rb n ρ M l L st wi wi') (e : Ext K ρ M ρ' M') (hK : ∀ c, K c → c.1 = 1 ∧ 7 ≤ c.2) (hN : N ≤ M.length) : AllS N P tp tr mb ma mr p c ao rb n ρ' M' l L st wi wi' := by
  obtain ⟨S, t, hS⟩ := e.same
  have n1 : ∀ r, r < 7 → ¬ K (1, r) := fun r hr h => by have := (hK _ h).2; simp at this; omega
  have nk : ∀ i r, ¬ K (i + 2, r) := fun i r h => by have := (hK _ h).1; simp at this
  have n0 : ¬ K (0, 0) := fun h => by have := (hK _ h).1; simp at this
  refine ⟨fun i x hx => (h.ps i x hx).ext e (nk _) n0, cells_ext h.ar e (by rw [h.ca]; exact n1 3 (by decide)), by rw [e.col _ h.ar.lt]; exact h.ca, cells_ext h.rw e (by rw [h.cr]; exact n1 1 (by decide)), by rw [e.col _ h.rw.lt]; exact h.cr,
    fun i x hx => (h.ds i x hx).ext e (fun r _ => nk _ r) n0, h.ok, h.tb.ext e n0 h.c0, h.mm.same t (hS _ h.mm.hd.lt (by rw [h.hc.1]; exact n1 0 (by decide))) (hS _ h.mm.cs.lt (by rw [h.hc.2]; exact n1 0 (by decide))),
    ⟨by rw [e.col _ h.mm.hd.lt]; exact h.hc.1, by rw [e.col _ h.mm.cs.lt]; exact h.hc.2⟩, ref_ext h.rr h.hr e (n1 2 (by decide)), refcol h.rr h.hr e, h.lo, h.n, fun z hz => by rw [e.col z (by omega)]; exact h.c0 z hz⟩
theorem AllS.lt (h : AllS N P tp tr mb ma mr p c ao rb n ρ M l L st wi wi') {x : Wk} {i : Nat} (hx : l[i]? = some x) : N ≤ M.length := (h.ps i x hx).rs.lt
theorem both (hG : GC N P tr mb ma mr) (h : AllS N P tp tr mb ma mr p c ao rb n ρ M l L st wi wi') (hn : n < 1000000) {k : Nat} {x : Wk} (hx : l[k]? = some x) :
    ∃ M1 M2 ρ1 ρ2 y wi2 wi2', LL.call 15 [pt x.w, pt mb] M = some (.agg (encV (stepW P L x.σ).ev).toArray, M1) ∧ LL.call 16 [.pointer (some ⟨rb, k * 31, none⟩), pt mr] M1 = some (.agg (encV (stepW P L x.σ).ev).toArray, M2) ∧
      AllS N P tp tr mb ma mr p c ao rb (n + 1) ρ2 M2 (l.set k y) (stepW P L x.σ).L (st + (stepW P L x.σ).dt) wi2 wi2' ∧ y.w = x.w ∧ y.σ = (stepW P L x.σ).σ ∧ Ext (OursT (2 * k + 2)) ρ M ρ1 M1 ∧ Ext (OursD (2 * k + 1 + 2) 9) ρ1 M1 ρ2 M2 := by
  have hxm := List.mem_of_getElem? hx
  have hkl := (ges.1 hx).1
  obtain ⟨n1, n2, n3⟩ := h.n
  have hN := h.lt hx
  have hPS : PS (2 * k + 2) N P tp tr x.w mb ma n ρ M x.B x.σ L st wi := ⟨h.ps k x hx, h.tb, h.ok x hxm, h.mm, h.hc, h.lo, by omega, by omega, by omega⟩
  obtain ⟨M1, ρ1, B', wi2, a1, a2, a3, a4, a5⟩ := pstep (hG.pc (2 * k)) hPS
  obtain ⟨S, t, hS⟩ := a5.same
  have nd : ∀ i r, ¬ OursT (2 * k + 2) (2 * i + 1 + 2, r) := fun i r hh => by
    rcases hh with hh | hh | hh
    · simp at hh; omega
    · have := congrArg Prod.fst hh; simp at this
    · have := congrArg Prod.fst hh; simp at this
  have np : ∀ i r, i ≠ k → ¬ OursT (2 * k + 2) (2 * i + 2, r) := fun i r hi hh => by
    rcases hh with hh | hh | hh
    · simp at hh; omega
    · have := congrArg Prod.fst hh; simp at this
    · have := congrArg Prod.fst hh; simp at this
  have n0 : ¬ OursT (2 * k + 2) (0, 0) := fun hh => by
    rcases hh with hh | hh | hh
    · simp at hh
    · cases hh
    · cases hh
  have n11 : ∀ r, r = 1 ∨ r = 2 ∨ r = 3 → ¬ OursT (2 * k + 2) (1, r) := fun r hr hh => by
    rcases hh with hh | hh | hh
    · simp at hh
    · have := congrArg Prod.snd hh; simp at this; omega
    · have := congrArg Prod.snd hh; simp at this; omega
  have rw1 := cells_ext h.rw a5 (by rw [h.cr]; exact n11 1 (by simp))
  have cr1 : ρ1 rb = (1, 1) := by rw [a5.col _ h.rw.lt]; exact h.cr
  have ds1 : ∀ i x, l[i]? = some x → RsD ρ1 (2 * i + 1 + 2) N P M1 x.D x.σ := fun i x hi => (h.ds i x hi).ext a5 (fun r _ => nd i r) n0
  have rr1 := ref_ext h.rr h.hr a5 (n11 2 (by simp))
  have hr1 := refcol h.rr h.hr a5
  have tb1 := h.tb.ext a5 n0 h.c0
  have c01 : ∀ z, z < N → ρ1 z = (0, 0) := fun z hz => by rw [a5.col z (by omega)]; exact h.c0 z hz
  have hDS : DS (2 * k + 1 + 2) N P tp tr rb (k * 31) ((l.take k).flatMap (encX P tp)) ((l.drop (k + 1)).flatMap (encX P tp)) mr p c n ρ1 M1 x.D x.σ L st wi' :=
    ⟨⟨mid_of (encX_length P tp) rw1 hx, cr1, ds1 k x hx⟩, tb1, h.ok x hxm, rr1, hr1, h.lo, by omega, by omega, by omega⟩
  obtain ⟨M2, ρ2, D', wi2', b1, b2, b3, b4, b5⟩ := dstep (hG.pc (2 * k + 1)) hDS
  have ep : ∀ i r, ¬ OursD (2 * k + 1 + 2) 9 (2 * i + 2, r) := fun i r hh => by
    rcases hh with hh | hh | hh | hh
    · simp at hh; omega
    · have := congrArg Prod.fst hh; simp at this
    · have := congrArg Prod.fst hh; simp at this
    · have := hh.1; simp at this
  have ed : ∀ i r, i ≠ k → ¬ OursD (2 * k + 1 + 2) 9 (2 * i + 1 + 2, r) := fun i r hi hh => by
    rcases hh with hh | hh | hh | hh
    · simp at hh; omega
    · have := congrArg Prod.fst hh; simp at this
    · have := congrArg Prod.fst hh; simp at this
    · have := hh.1; simp at this
  have e0 : ¬ OursD (2 * k + 1 + 2) 9 (0, 0) := fun hh => by
    rcases hh with hh | hh | hh | hh
    · simp at hh
    · cases hh
    · cases hh
    · have := hh.1; simp at this
  have e1 : ∀ r, r = 0 ∨ r = 3 → ¬ OursD (2 * k + 1 + 2) 9 (1, r) := fun r hr hh => by
    rcases hh with hh | hh | hh | hh
    · simp at hh
    · have := congrArg Prod.snd hh; simp at this; omega
    · have := congrArg Prod.snd hh; simp at this; omega
    · have := hh.2.1; simp at this; omega
  obtain ⟨S2, t2, hS2⟩ := b5.same
  have ca1 : ρ1 ao = (1, 3) := by rw [a5.col _ h.ar.lt]; exact h.ca
  have ar1 := cells_ext h.ar a5 (by rw [h.ca]; exact n11 3 (by simp))
  have hc1 : ρ1 mb = (1, 0) ∧ ρ1 ma = (1, 0) := col_keep h.mm h.hc a5
  refine ⟨M1, M2, ρ1, ρ2, ⟨x.w, B', D', (stepW P L x.σ).σ⟩, wi2, wi2', a1, b1, ⟨fun i y hy => ?_, ?_, by rw [b5.col _ ar1.lt]; exact ca1, ?_, b2.cw, fun i y hy => ?_, fun y hy => ?_, tb1.ext b5 e0 c01, ?_, col_keep a3 hc1 b5, b3, refcol rr1 hr1 b5, stepW_L hG.ok h.lo (h.ok x hxm), ?_, fun z hz => ?_⟩, rfl, rfl, a5, b5⟩
  · by_cases hi : k = i
    · subst hi
      rw [List.getElem?_set_self hkl] at hy
      cases hy
      exact a2.ext b5 (ep k) e0
    · rw [List.getElem?_set_ne hi] at hy
      exact ((h.ps i y hy).ext a5 (fun r => np i r (fun e => hi e.symm)) n0).ext b5 (ep i) e0
  · have : (l.set k ⟨x.w, B', D', (stepW P L x.σ).σ⟩).flatMap (fun x => [pt x.w]) = l.flatMap fun x => [pt x.w] := by
      have hh : ∀ m : List Wk, (m.flatMap fun x => [pt x.w]) = (m.map fun x => x.w).flatMap fun f => [pt f] := fun m => by rw [List.flatMap_map]
      rw [hh, hh]
      congr 1
      rw [List.map_set]
      refine List.ext_getElem? fun i => ?_
      by_cases e : k = i
      · subst e
        rw [List.getElem?_set_self (by simpa using hkl), List.getElem?_map, hx]
        rfl
      · rw [List.getElem?_set_ne e]
    rw [this]
    exact cells_ext ar1 b5 (by rw [ca1]; exact e1 3 (by simp))
  · exact mid_to hkl b2.hd
  · by_cases hi : k = i
    · subst hi
      rw [List.getElem?_set_self hkl] at hy
      cases hy
      exact b2.rs
    · rw [List.getElem?_set_ne hi] at hy
      exact (ds1 i y hy).ext b5 (fun r _ => ed i r (fun e => hi e.symm)) e0
  · rcases List.mem_or_eq_of_mem_set hy with hy | hy
    · exact (h.ok y hy).mono (by omega)
    · subst hy
      exact stepW_ok hG.ok (h.lo.get 0) (h.ok x hxm)
  · exact a3.same t2 (hS2 _ a3.hd.lt (by rw [hc1.1]; exact e1 0 (by simp))) (hS2 _ a3.cs.lt (by rw [hc1.2]; exact e1 0 (by simp)))
  · have hdt : (stepW P L x.σ).dt ≤ 1 := by
      unfold stepW flushW claimW
      split
      · exact Nat.le_refl _
      · split
        · exact Nat.le_refl _
        · simp only
          split
          · exact Nat.le_refl _
          · split
            · exact Nat.zero_le _
            · split
              · exact Nat.le_refl _
              · split
                · exact Nat.le_refl _
                · exact Nat.zero_le _
    exact ⟨by omega, by omega, by omega⟩
  · have := a5.le
    rw [b5.col z (by omega)]; exact c01 z hz
end
theorem E11 (c : Rec) (a b : Int) : enterF c a11 [.agg #[.int .i64 a, .int .i64 b]] [] = some (.agg #[.int .i64 a, .int .i64 b], ([AObj.cells [.int .i64 a, .int .i64 b] ⟨false, 0⟩, AObj.cells [.int .i64 a, .int .i64 b] ⟨false, 1⟩] : AMem)) := by kernel_rfl
def s19_14 (e : Option Addr) (a b : Nat) (f : Option Addr) (c d : Nat) (g : Int) (h : AMem) : List Value := .slice e a b :: .slice f c d :: jk 3 (.int .i64 g :: jk 35 [])
noncomputable def F19_14 (a b : ACode) (j : Rec) := fun g c d h e f i k => j.loop a (blockK 0 (seqK (code j (.clear zl28 b) (retK [.tmp 4])) (retK [.tmp 4]))) (s19_14 g c d h e f i k) k

noncomputable def P19_14 := hid (F19_14 b19_14 c19_31)
def s19_30 (e : Option Addr) (a b : Nat) (f : Option Addr) (c d : Nat) (g : Int) (h : AMem) : List Value := .slice e a b :: .slice f c d :: jk 3 (.int .i64 g :: jk 35 [])
noncomputable def F19_30 (a b c : ACode) (k : Rec) := fun h d e i f g j l => code k b (postK zl27 (loopK k a (blockK 0 (seqK (code k (.clear zl28 c) (retK [.tmp 4])) (retK [.tmp 4]))))) (s19_30 h d e i f g j l) l

noncomputable def P19_30 := hid (F19_30 b19_14 c19_30 c19_31)
def s19_31 (a : AMem) : List Value := jk 41 []
noncomputable def F19_31 (a : ACode) (b : Rec) := fun c => code b a (retK [.tmp 4]) (s19_31 c) c

noncomputable def P19_31 := hid (F19_31 c19_31)
theorem QP19_14_eq (D : Rec) (a d b : ACode) (C : HB D a (.post (.seq (.seq (.ops o19_17) (.cond (.tmp 14) (.skip) (.exit 0))) (.seq (.block 1 (.seq (.draw [] 0 o19_24 []) (.cond (.tmp 40) (.seq (.ops o19_27) (.ret)) (.skip)))) (.clear zl27 d))) zl27)) (e) (j : e = F19_14 a b) (f) (k : f = F19_30 a d b) (g) (l : g = F19_31 b) (v : Option Addr) (m o : Nat) (w : Option Addr) (n p : Nat) (c : Int) (E : AMem) : e D v m o w n p c E = (if (decide (c < (Int.ofNat m))) = true then (match v with | some q => (if (0 : Int) ≤ c ∧ c < (Int.ofNat m) then (Option.bind (intOf? .i64 (E.ld q.block (q.off + ((Int.toNat c) * 4)))) fun x => (match w with | some r => (if (0 : Int) ≤ c ∧ c < (Int.ofNat n) then (Option.bind (intOf? .i64 (E.ld r.block (r.off + ((Int.toNat c) * 4)))) fun y => (if (x != y) = true then some (.bool false, E) else (match v with | some h => (if (0 : Int) ≤ c ∧ c < (Int.ofNat m) then (Option.bind (intOf? .u64 (E.ld h.block ((h.off + ((Int.toNat c) * 4)) + 1))) fun z => (Option.bind (intOf? .u64 (E.ld h.block (((h.off + ((Int.toNat c) * 4)) + 1) + 1))) fun A => (Option.bind (intOf? .u64 (E.ld h.block (((h.off + ((Int.toNat c) * 4)) + 1) + 2))) fun B => (match w with | some i => (if (0 : Int) ≤ c ∧ c < (Int.ofNat n) then (Option.bind (intOf? .u64 (E.ld i.block ((i.off + ((Int.toNat c) * 4)) + 1))) fun s => (Option.bind (intOf? .u64 (E.ld i.block (((i.off + ((Int.toNat c) * 4)) + 1) + 1))) fun t => (Option.bind (intOf? .u64 (E.ld i.block (((i.off + ((Int.toNat c) * 4)) + 1) + 2))) fun u => (if (!((z == s) && ((A == t) && (B == u)))) = true then some (.bool false, E) else f D v m o w n p c E)))) else none) | none => none)))) else none) | none => none))) else none) | none => none)) else none) | none => none) else g D E) := by
  subst j; subst k; subst l; exact (C _ _ _).trans (by kernel_rfl)
abbrev P19_14_eq (L : Rec) (hL : HL L) := QP19_14_eq L _ _ _ (hL b19_14) P19_14 (hE _) P19_30 (hE _) P19_31 (hE _)
theorem QP19_30_eq (n : Rec) (a b : ACode) (c) (e : c = F19_14 a b) (d : Rec → (Option Addr) → Nat → Nat → (Option Addr) → Nat → Nat → Int → AMem → Res) (f : Eq d fun n k g h l i j m o => code n (.ops o19_30) (postK zl27 (loopK n a (blockK 0 (seqK (code n (.clear zl28 b) (retK [.tmp 4])) (retK [.tmp 4]))))) (s19_30 k g h l i j m o) o) (k : Option Addr) (g h : Nat) (l : Option Addr) (i j : Nat) (m : Int) (o : AMem) : d n k g h l i j m o = c n k g h l i j (IntKind.wrap .i64 (m + 1)) o := by
  subst e; subst f; kernel_rfl
abbrev P19_30_eq (L : Rec) := QP19_30_eq L _ _ P19_14 (hE _) P19_30 (hE _)
theorem QP19_31_eq (c : Rec) (a : Rec → AMem → Res) (b : Eq a fun c d => code c (.seq (.ops o19_32) (.ret)) (retK [.tmp 4]) (s19_31 d) d) (d : AMem) : a c d = some (.bool true, d) := by
  subst b; kernel_rfl
abbrev P19_31_eq (L : Rec) := QP19_31_eq L P19_31 (hE _)
theorem QE19 (k : Rec) (a b : ACode) (c) (d : c = F19_14 a b) (i : Option Addr) (e g : Nat) (j : Option Addr) (f h : Nat) (l : AMem) : enterF k ⟨41, [.tmp 4], .seq (.ops o19_1) (.seq (.seq (.ops o19_4) (.cond (.tmp 10) (.seq (.ops o19_7) (.ret)) (.skip))) (.seq (.seq (.ops o19_12) (.block 0 (.clear zl27 (.loop a)))) (.clear zl28 b)))⟩ [.slice i e g, .slice j f h] l = (if ((Int.ofNat e) != (Int.ofNat f)) = true then some (.bool false, l) else c k i e g j f h 0 l) := by
  subst d; kernel_rfl
abbrev E19 (L : Rec) (x0 : Option Addr) (x0n x0c : Nat) (x1 : Option Addr) (x1n x1c : Nat) (M : AMem) := (Eq.refl (enterF L a19 [.slice x0 x0n x0c, .slice x1 x1n x1c] M)).trans (QE19 L _ _ P19_14 (hE _) x0 x0n x0c x1 x1n x1c M)
def s21_14 (e : Option Addr) (a b : Nat) (f : Option Addr) (c d : Nat) (g : Int) (h : AMem) : List Value := .slice e a b :: .slice f c d :: jk 3 (.int .i64 g :: jk 20 [])
noncomputable def F21_14 (a b : ACode) (j : Rec) := fun g c d h e f i k => j.loop a (blockK 0 (seqK (code j (.clear zl30 b) (retK [.tmp 4])) (retK [.tmp 4]))) (s21_14 g c d h e f i k) k

noncomputable def P21_14 := hid (F21_14 b21_14 c21_31)
def s21_30 (e : Option Addr) (a b : Nat) (f : Option Addr) (c d : Nat) (g : Int) (h : AMem) : List Value := .slice e a b :: .slice f c d :: jk 3 (.int .i64 g :: jk 20 [])
noncomputable def F21_30 (a b c : ACode) (k : Rec) := fun h d e i f g j l => code k b (postK zl29 (loopK k a (blockK 0 (seqK (code k (.clear zl30 c) (retK [.tmp 4])) (retK [.tmp 4]))))) (s21_30 h d e i f g j l) l

noncomputable def P21_30 := hid (F21_30 b21_14 c21_30 c21_31)
def s21_31 (a : AMem) : List Value := jk 26 []
noncomputable def F21_31 (a : ACode) (b : Rec) := fun c => code b a (retK [.tmp 4]) (s21_31 c) c

noncomputable def P21_31 := hid (F21_31 c21_31)
theorem QP21_14_eq (v : Rec) (a c b : ACode) (u : HB v a (.post (.seq (.seq (.ops o21_17) (.cond (.tmp 14) (.skip) (.exit 0))) (.seq (.block 1 (.seq (.draw [] 0 o21_24 []) (.cond (.tmp 25) (.seq (.ops o21_27) (.ret)) (.skip)))) (.clear zl29 c))) zl29)) (d) (g : d = F21_14 a b) (e) (h : e = F21_30 a c b) (f) (i : f = F21_31 b) (q : Option Addr) (j m : Nat) (r : Option Addr) (l n : Nat) (k : Int) (w : AMem) : d v q j m r l n k w = (if (decide (k < (Int.ofNat j))) = true then (match q with | some o => (if (0 : Int) ≤ k ∧ k < (Int.ofNat j) then (Option.bind (intOf? .u64 (w.ld o.block (o.off + ((Int.toNat k) * 1)))) fun s => (match r with | some p => (if (0 : Int) ≤ k ∧ k < (Int.ofNat l) then (Option.bind (intOf? .u64 (w.ld p.block (p.off + ((Int.toNat k) * 1)))) fun t => (if (s != t) = true then some (.bool false, w) else e v q j m r l n k w)) else none) | none => none)) else none) | none => none) else f v w) := by
  subst g; subst h; subst i; exact (u _ _ _).trans (by kernel_rfl)
abbrev P21_14_eq (L : Rec) (hL : HL L) := QP21_14_eq L _ _ _ (hL b21_14) P21_14 (hE _) P21_30 (hE _) P21_31 (hE _)
theorem QP21_30_eq (n : Rec) (a b : ACode) (c) (e : c = F21_14 a b) (d : Rec → (Option Addr) → Nat → Nat → (Option Addr) → Nat → Nat → Int → AMem → Res) (f : Eq d fun n k g h l i j m o => code n (.ops o21_30) (postK zl29 (loopK n a (blockK 0 (seqK (code n (.clear zl30 b) (retK [.tmp 4])) (retK [.tmp 4]))))) (s21_30 k g h l i j m o) o) (k : Option Addr) (g h : Nat) (l : Option Addr) (i j : Nat) (m : Int) (o : AMem) : d n k g h l i j m o = c n k g h l i j (IntKind.wrap .i64 (m + 1)) o := by
  subst e; subst f; kernel_rfl
abbrev P21_30_eq (L : Rec) := QP21_30_eq L _ _ P21_14 (hE _) P21_30 (hE _)
theorem QP21_31_eq (c : Rec) (a : Rec → AMem → Res) (b : Eq a fun c d => code c (.seq (.ops o21_32) (.ret)) (retK [.tmp 4]) (s21_31 d) d) (d : AMem) : a c d = some (.bool true, d) := by
  subst b; kernel_rfl
abbrev P21_31_eq (L : Rec) := QP21_31_eq L P21_31 (hE _)
theorem QE21 (k : Rec) (a b : ACode) (c) (d : c = F21_14 a b) (i : Option Addr) (e g : Nat) (j : Option Addr) (f h : Nat) (l : AMem) : enterF k ⟨26, [.tmp 4], .seq (.ops o21_1) (.seq (.seq (.ops o21_4) (.cond (.tmp 10) (.seq (.ops o21_7) (.ret)) (.skip))) (.seq (.seq (.ops o21_12) (.block 0 (.clear zl29 (.loop a)))) (.clear zl30 b)))⟩ [.slice i e g, .slice j f h] l = (if ((Int.ofNat e) != (Int.ofNat f)) = true then some (.bool false, l) else c k i e g j f h 0 l) := by
  subst d; kernel_rfl
abbrev E21 (L : Rec) (x0 : Option Addr) (x0n x0c : Nat) (x1 : Option Addr) (x1n x1c : Nat) (M : AMem) := (Eq.refl (enterF L a21 [.slice x0 x0n x0c, .slice x1 x1n x1c] M)).trans (QE21 L _ _ P21_14 (hE _) x0 x0n x0c x1 x1n x1c M)
theorem ents_loop {M : AMem} {p q : Option Addr} {c d : Nat} {l : List En} (hp : RdL M encE p l.length l) (hq : RdL M encE q l.length l) (hl : l.length ≤ 1000000) : ∀ (e i : Nat), i + e = l.length →
    P19_14 LL p l.length c q l.length d (i : Int) M = some (.bool true, M) := by
  intro e
  induction e with
  | zero =>
    intro i hi
    rw [P19_14_eq LL L_loop, ifDn (by rw [ofN]; omega), P19_31_eq]
  | succ e ih =>
    intro i hi
    have hil : i < l.length := by omega
    obtain ⟨x, hx⟩ : ∃ x, l[i]? = some x := ⟨_, gee hil⟩
    obtain ⟨a, ea, ha⟩ := hp.2 (by omega)
    obtain ⟨b, eb, hb⟩ := hq.2 (by omega)
    obtain ⟨a0, a1, a2, a3⟩ := ent_ld ha hx
    obtain ⟨b0, b1, b2, b3⟩ := ent_ld hb hx
    have hg : (0 : Int) ≤ (i : Int) ∧ (i : Int) < Int.ofNat l.length := by rw [ofN]; omega
    have hw : IntKind.wrap .i64 ((i : Int) + 1) = ((i + 1 : Nat) : Int) := by rw [w64 (by omega)]; rfl
    have a2' : M.ld a (i * 4 + 1 + 1) = some (.int .u64 x.w1) := a2
    have a3' : M.ld a (i * 4 + 1 + 2) = some (.int .u64 x.w2) := a3
    have b2' : M.ld b (i * 4 + 1 + 1) = some (.int .u64 x.w1) := b2
    have b3' : M.ld b (i * 4 + 1 + 2) = some (.int .u64 x.w2) := b3
    rw [P19_14_eq LL L_loop, ifD hg.2, ea, eb]
    simp only [↓if_pos hg, Nat.zero_add, Int.toNat_natCast]
    rw [bLI a0, bLI b0, show (x.px != x.px) = false by simp, ifF, bLI a1, bLI a2', bLI a3', bLI b1, bLI b2', bLI b3']
    simp only [beq_self_eq_true, Bool.and_self]
    rw [ifNT, P19_30_eq, hw, ← ea, ← eb]
    exact ih (i + 1) (by omega)
theorem ents_spec {M : AMem} {p q : Option Addr} {c d : Nat} {l : List En} (hp : RdL M encE p l.length l) (hq : RdL M encE q l.length l) (hl : l.length ≤ 1000000) :
    LL.call 19 [.slice p l.length c, .slice q l.length d] M = some (.bool true, M) := by
  rw [L_call19, E19, show (Int.ofNat l.length != Int.ofNat l.length) = false by simp, ifF]
  exact ents_loop hp hq hl l.length 0 (by omega)
theorem sm_loop {M : AMem} {p q : Option Addr} {c d : Nat} {l : List Int} (hp : RdI M .u64 p l.length l) (hq : RdI M .u64 q l.length l) (hl : l.length ≤ 1000000) : ∀ (e i : Nat), i + e = l.length →
    P21_14 LL p l.length c q l.length d (i : Int) M = some (.bool true, M) := by
  intro e
  induction e with
  | zero =>
    intro i hi
    rw [P21_14_eq LL L_loop, ifDn (by rw [ofN]; omega), P21_31_eq]
  | succ e ih =>
    intro i hi
    have hil : i < l.length := by omega
    obtain ⟨x, hx⟩ : ∃ x, l[i]? = some x := ⟨_, gee hil⟩
    obtain ⟨a, ea, ha⟩ := hp.2 (by omega)
    obtain ⟨b, eb, hb⟩ := hq.2 (by omega)
    have a0 : M.ld a (i * 1) = some (.int .u64 x) := by rw [ha.ld, Nat.mul_one, ints_get, hx]; rfl
    have b0 : M.ld b (i * 1) = some (.int .u64 x) := by rw [hb.ld, Nat.mul_one, ints_get, hx]; rfl
    have hg : (0 : Int) ≤ (i : Int) ∧ (i : Int) < Int.ofNat l.length := by rw [ofN]; omega
    have hw : IntKind.wrap .i64 ((i : Int) + 1) = ((i + 1 : Nat) : Int) := by rw [w64 (by omega)]; rfl
    rw [P21_14_eq LL L_loop, ifD hg.2, ea, eb]
    simp only [↓if_pos hg, Nat.zero_add, Int.toNat_natCast]
    rw [bLI a0, bLI b0, show (x != x) = false by simp, ifF, P21_30_eq, hw, ← ea, ← eb]
    exact ih (i + 1) (by omega)
theorem sm_spec {M : AMem} {p q : Option Addr} {c d : Nat} {l : List Int} (hp : RdI M .u64 p l.length l) (hq : RdI M .u64 q l.length l) (hl : l.length ≤ 1000000) :
    LL.call 21 [.slice p l.length c, .slice q l.length d] M = some (.bool true, M) := by
  rw [L_call21, E21, show (Int.ofNat l.length != Int.ofNat l.length) = false by simp, ifF]
  exact sm_loop hp hq hl l.length 0 (by omega)
def totR (tr : List Row) : Nat := (tr.map fun r => r.l.length).sum
theorem totR_le : ∀ (tr : List Row), (∀ r ∈ tr, r.l.length ≤ 1000000000000000) → totR tr ≤ tr.length * 1000000000000000
  | [], _ => by simp [totR]
  | r :: tr, h => by
    have := totR_le tr (fun x hx => h x (by simp [hx]))
    have := h r (by simp)
    simp only [totR, List.map_cons, List.sum_cons, List.length_cons] at *
    omega
theorem totR_mem : ∀ {tr : List Row} {r : Row}, r ∈ tr → r.l.length ≤ totR tr
  | a :: tr, r, h => by
    rcases List.mem_cons.1 h with rfl | h
    · simp [totR]
    · have := totR_mem h
      simp only [totR, List.map_cons, List.sum_cons] at *
      omega
theorem small_loop {N : Nat} {M : AMem} {tp : Option Addr} {tr : List Row} (ht : TbOk N M tp tr) (htl : tr.length ≤ 1000000000000000) (hes : ∀ r ∈ tr, r.l.length ≤ 1000000000000000) : ∀ (d i : Nat) (n : Int), i + d = tr.length → (tr.length ≤ 12 → n = (totR (tr.take i) : Nat)) →
    ∃ n', P5_8 LL tp tr.length 0 12 24 n (i : Int) M = P5_19 LL tp tr.length 0 12 24 n' M ∧ (tr.length ≤ 12 → n' = (totR tr : Nat)) := by
  intro d
  induction d with
  | zero =>
    intro i n hi hn
    rw [P5_8_eq LL L_loop, ifDn (by rw [ofN]; omega)]
    exact ⟨n, rfl, fun h6 => by rw [hn h6, List.take_of_length_le (by omega)]⟩
  | succ d ih =>
    intro i n hi hn
    have hil : i < tr.length := by omega
    obtain ⟨r, hr⟩ : ∃ r, tr[i]? = some r := ⟨_, gee hil⟩
    obtain ⟨z, ez, l0⟩ := ht.ld hr
    have hg : (0 : Int) ≤ (i : Int) ∧ (i : Int) < Int.ofNat tr.length := by rw [ofN]; omega
    have hw : IntKind.wrap .i64 ((i : Int) + 1) = ((i + 1 : Nat) : Int) := by rw [w64 (by omega)]; rfl
    have ht' : totR (tr.take (i + 1)) = totR (tr.take i) + r.l.length := by rw [List.take_add_one, hr]; simp [totR]
    obtain ⟨n', k1, k2⟩ := ih (i + 1) (IntKind.wrap .i64 (n + (r.l.length : Nat))) (by omega) (fun h6 => by
      have hb := totR_le (tr.take (i + 1)) (fun k hk => hes k (List.mem_of_mem_take hk))
      have hb2 : (tr.take (i + 1)).length ≤ 12 := by rw [List.length_take]; omega
      have hb3 : (tr.take (i + 1)).length * 1000000000000000 ≤ 12 * 1000000000000000 := Nat.mul_le_mul_right _ hb2
      rw [hn h6, ht', w64 (by omega)]
      omega)
    refine ⟨n', ?_, k2⟩
    rw [P5_8_eq LL L_loop, ifD hg.2, ez]
    simp only [↓if_pos hg, Nat.zero_add, Int.toNat_natCast]
    rw [bLS l0, P5_18_eq, hw, ← ez]
    exact k1
theorem small_spec {N : Nat} {M : AMem} {tp : Option Addr} {tr : List Row} (ht : TbOk N M tp tr) (htl : tr.length ≤ 1000000000000000) (hes : ∀ r ∈ tr, r.l.length ≤ 1000000000000000) :
    LL.call 5 [.slice tp tr.length 0, .int .i64 12, .int .i64 24] M = some (.bool (decide (tr.length ≤ 12 ∧ totR tr ≤ 24)), M) := by
  rw [L_call5, E5]
  obtain ⟨n', k1, k2⟩ := small_loop ht htl hes tr.length 0 0 (by omega) (fun _ => by simp [totR])
  have k1' : P5_8 LL tp tr.length 0 12 24 0 0 M = _ := k1
  rw [k1', P5_19_eq]
  by_cases h : tr.length ≤ 12
  · rw [ifD (by rw [ofN]; omega), k2 h]
    congr 3
    by_cases h2 : totR tr ≤ 24
    · rw [decide_eq_true (by omega), decide_eq_true ⟨h, h2⟩]
    · rw [decide_eq_false (by omega), decide_eq_false (fun c => h2 c.2)]
  · rw [ifDn (by rw [ofN]; omega), decide_eq_false (fun c => h c.1)]
def s3_5 (f g : Int) (h : Option Addr) (a b : Nat) (i : Int) (j : Option Addr) (c d k : Nat) (e : Bool) (l : AMem) : List Value := junk :: .int .i64 f :: .int .i64 g :: .slice h a b :: .int .u8 i :: .slice j c d :: .pointer (some ⟨k, 0, none⟩) :: jk 41 (.bool e :: jk 220 [])
noncomputable def F3_5 (a c b : ACode) (o : Rec) := fun i j k d e l m f g n h p => code o c (seqK (code o (.seq (.ops o3_11) (.seq (.ops o3_13) (.seq (.ops o3_15) (.seq (.ops o3_17) (.seq (.seq (.ops o3_20) (.block 0 (.clear zl2 (.loop a)))) (.clear zl10 b)))))) (retK [.tmp 12])) (retK [.tmp 12])) (s3_5 i j k d e l m f g n h p) p

noncomputable def P3_5 := hid (F3_5 b3_22 c3_5 c3_53)
def s3_22 (n o : Int) (p : Option Addr) (e f : Nat) (q : Int) (r : Option Addr) (g h s i : Nat) (j k : Option Addr) (a b : Nat) (l : Option Addr) (c d : Nat) (m : Int) (t : AMem) : List Value := junk :: .int .i64 n :: .int .i64 o :: .slice p e f :: .int .u8 q :: .slice r g h :: .pointer (some ⟨s, 0, none⟩) :: jk 6 (.pointer (some ⟨i, 0, none⟩) :: junk :: .pointer j :: .slice k a b :: .slice l c d :: .int .i64 m :: jk 250 [])
noncomputable def F3_22 (a b : ACode) (v : Rec) := fun p q r g h s t i j u k l m c d n e f o w => v.loop a (blockK 0 (seqK (code v (.clear zl10 b) (retK [.tmp 12])) (retK [.tmp 12]))) (s3_22 p q r g h s t i j u k l m c d n e f o w) w

noncomputable def P3_22 := hid (F3_22 b3_22 c3_53)
def s3_26 (o p : Int) (q : Option Addr) (e f : Nat) (r : Int) (s : Option Addr) (g h t i : Nat) (j k : Option Addr) (a b : Nat) (l : Option Addr) (c d : Nat) (m : Int) (n : Bool) (u : AMem) : List Value := junk :: .int .i64 o :: .int .i64 p :: .slice q e f :: .int .u8 r :: .slice s g h :: .pointer (some ⟨t, 0, none⟩) :: jk 6 (.pointer (some ⟨i, 0, none⟩) :: junk :: .pointer j :: .slice k a b :: .slice l c d :: .int .i64 m :: jk 45 (.bool n :: jk 204 []))
noncomputable def F3_26 (a c d e b : ACode) (z : Rec) := fun t u v j k w x l m y n o p f g q h i r s A => code z c (seqK (code z (.seq (.block 1 (.seq (.ops o3_32) (.seq (.seq (.ops o3_35) (.cond (.tmp 80) (.seq (.ops o3_38) (.ret)) (.skip))) (.seq (.seq (.ops o3_43) (.cond (.tmp 82) (.seq (.ops o3_46) (.ret)) (.skip))) (.clear zl1 d))))) (.clear zl2 e)) (postK zl2 (loopK z a (blockK 0 (seqK (code z (.clear zl10 b) (retK [.tmp 12])) (retK [.tmp 12])))))) (postK zl2 (loopK z a (blockK 0 (seqK (code z (.clear zl10 b) (retK [.tmp 12])) (retK [.tmp 12])))))) (s3_26 t u v j k w x l m y n o p f g q h i r s A) A

noncomputable def P3_26 := hid (F3_26 b3_22 c3_26 c3_49 c3_52 c3_53)
def s3_49 (o p : Int) (q : Option Addr) (e f : Nat) (r : Int) (s : Option Addr) (g h t i : Nat) (j k : Option Addr) (a b : Nat) (l : Option Addr) (c d : Nat) (m : Int) (n : Option Addr) (u : AMem) : List Value := junk :: .int .i64 o :: .int .i64 p :: .slice q e f :: .int .u8 r :: .slice s g h :: .pointer (some ⟨t, 0, none⟩) :: jk 6 (.pointer (some ⟨i, 0, none⟩) :: junk :: .pointer j :: .slice k a b :: .slice l c d :: .int .i64 m :: .pointer n :: jk 249 [])
noncomputable def F3_49 (a c d b : ACode) (y : Rec) := fun s t u i j v w k l x m n o e f p g h q r z => code y c (blockK 1 (seqK (code y (.clear zl2 d) (postK zl2 (loopK y a (blockK 0 (seqK (code y (.clear zl10 b) (retK [.tmp 12])) (retK [.tmp 12])))))) (postK zl2 (loopK y a (blockK 0 (seqK (code y (.clear zl10 b) (retK [.tmp 12])) (retK [.tmp 12]))))))) (s3_49 s t u i j v w k l x m n o e f p g h q r z) z

noncomputable def P3_49 := hid (F3_49 b3_22 c3_49 c3_52 c3_53)
def s3_53 (k : Option Addr) (e f g : Nat) (h i : Option Addr) (a b : Nat) (j : Option Addr) (c d : Nat) (l : AMem) : List Value := jk 5 (.slice k e f :: jk 7 (.pointer (some ⟨g, 0, none⟩) :: junk :: .pointer h :: .slice i a b :: .slice j c d :: jk 251 []))
noncomputable def F3_53 (a : ACode) (m : Rec) := fun l f g h i j b c k d e n => code m a (retK [.tmp 12]) (s3_53 l f g h i j b c k d e n) n

noncomputable def P3_53 := hid (F3_53 c3_53)
def s3_52 (n o : Int) (p : Option Addr) (e f : Nat) (q : Int) (r : Option Addr) (g h s i : Nat) (j k : Option Addr) (a b : Nat) (l : Option Addr) (c d : Nat) (m : Int) (t : AMem) : List Value := junk :: .int .i64 n :: .int .i64 o :: .slice p e f :: .int .u8 q :: .slice r g h :: .pointer (some ⟨s, 0, none⟩) :: jk 6 (.pointer (some ⟨i, 0, none⟩) :: junk :: .pointer j :: .slice k a b :: .slice l c d :: .int .i64 m :: jk 250 [])
noncomputable def F3_52 (a b c : ACode) (w : Rec) := fun q r s h i t u j k v l m n d e o f g p x => code w b (postK zl2 (loopK w a (blockK 0 (seqK (code w (.clear zl10 c) (retK [.tmp 12])) (retK [.tmp 12]))))) (s3_52 q r s h i t u j k v l m n d e o f g p x) x

noncomputable def P3_52 := hid (F3_52 b3_22 c3_52 c3_53)
def s3_57 (l : Option Addr) (e f g : Nat) (h i : Option Addr) (a b : Nat) (j : Option Addr) (c d : Nat) (k : Int) (m : AMem) : List Value := jk 5 (.slice l e f :: jk 7 (.pointer (some ⟨g, 0, none⟩) :: junk :: .pointer h :: .slice i a b :: .slice j c d :: jk 2 (.int .i64 k :: jk 248 [])))
noncomputable def F3_57 (a b : ACode) (o : Rec) := fun n g h i j k c d l e f m p => o.loop a (blockK 2 (seqK (code o (.clear zl8 b) (retK [.tmp 12])) (retK [.tmp 12]))) (s3_57 n g h i j k c d l e f m p) p

noncomputable def P3_57 := hid (F3_57 b3_57 c3_94)
def s3_94 (c : Nat) (d e : Option Addr) (a b : Nat) (f : AMem) : List Value := jk 13 (.pointer (some ⟨c, 0, none⟩) :: junk :: .pointer d :: .slice e a b :: jk 252 [])
noncomputable def F3_94 (a : ACode) (g : Rec) := fun d e f b c h => code g a (retK [.tmp 12]) (s3_94 d e f b c h) h

noncomputable def P3_94 := hid (F3_94 c3_94)
def s3_101 (b : Nat) (c : Option Addr) (a : Bool) (d : AMem) : List Value := jk 13 (.pointer (some ⟨b, 0, none⟩) :: junk :: .pointer c :: jk 237 (.bool a :: jk 15 []))
noncomputable def F3_101 (a : ACode) (e : Rec) := fun c d b f => code e a (seqK (code e (.seq (.draw [] 0 o3_107 [(3, 1), (9, 7)]) (.ret)) (retK [.tmp 12])) (retK [.tmp 12])) (s3_101 c d b f) f

noncomputable def P3_101 := hid (F3_101 c3_101)
def s3_70 (o : Option Addr) (e f g : Nat) (h i : Option Addr) (a b : Nat) (j : Option Addr) (c d : Nat) (k l : Int) (m n : Nat) (p : AMem) : List Value := jk 5 (.slice o e f :: jk 7 (.pointer (some ⟨g, 0, none⟩) :: junk :: .pointer h :: .slice i a b :: .slice j c d :: jk 2 (.int .i64 k :: .int .i64 l :: .pointer (some ⟨m, 0, none⟩) :: .pointer (some ⟨n, 0, none⟩) :: jk 245 [])))
noncomputable def F3_70 (a c d b : ACode) (t : Rec) := fun s i j k l m e f n g h o p q r u => code t c (blockK 3 (seqK (code t (.clear zl6 d) (postK zl6 (loopK t a (blockK 2 (seqK (code t (.clear zl8 b) (retK [.tmp 12])) (retK [.tmp 12])))))) (postK zl6 (loopK t a (blockK 2 (seqK (code t (.clear zl8 b) (retK [.tmp 12])) (retK [.tmp 12]))))))) (s3_70 s i j k l m e f n g h o p q r u) u

noncomputable def P3_70 := hid (F3_70 b3_57 c3_70 c3_93 c3_94)
def s3_73 (n : Option Addr) (f g h : Nat) (i j : Option Addr) (a b : Nat) (k : Option Addr) (c d : Nat) (l m : Int) (e : Bool) (o : AMem) : List Value := jk 5 (.slice n f g :: jk 7 (.pointer (some ⟨h, 0, none⟩) :: junk :: .pointer i :: .slice j a b :: .slice k c d :: jk 2 (.int .i64 l :: .int .i64 m :: jk 164 (.bool e :: jk 82 []))))
noncomputable def F3_73 (a d e c b : ACode) (t : Rec) := fun s k l m n o f g p h i q r j u => code t d (seqK (code t (.seq (.ops o3_79) (.seq (.seq (.ops o3_82) (.cond (.tmp 191) (.ops o3_84) (.skip))) (.clear zl4 e))) (blockK 3 (seqK (code t (.clear zl6 c) (postK zl6 (loopK t a (blockK 2 (seqK (code t (.clear zl8 b) (retK [.tmp 12])) (retK [.tmp 12])))))) (postK zl6 (loopK t a (blockK 2 (seqK (code t (.clear zl8 b) (retK [.tmp 12])) (retK [.tmp 12])))))))) (blockK 3 (seqK (code t (.clear zl6 c) (postK zl6 (loopK t a (blockK 2 (seqK (code t (.clear zl8 b) (retK [.tmp 12])) (retK [.tmp 12])))))) (postK zl6 (loopK t a (blockK 2 (seqK (code t (.clear zl8 b) (retK [.tmp 12])) (retK [.tmp 12])))))))) (s3_73 s k l m n o f g p h i q r j u) u

noncomputable def P3_73 := hid (F3_73 b3_57 c3_73 c3_86 c3_93 c3_94)
def s3_86 (p : Option Addr) (g h i : Nat) (j k : Option Addr) (a b : Nat) (l : Option Addr) (c d : Nat) (m n : Int) (o : Option Addr) (e f : Nat) (q : AMem) : List Value := jk 5 (.slice p g h :: jk 7 (.pointer (some ⟨i, 0, none⟩) :: junk :: .pointer j :: .slice k a b :: .slice l c d :: jk 2 (.int .i64 m :: .int .i64 n :: jk 2 (.slice o e f :: jk 244 []))))
noncomputable def F3_86 (a c d b : ACode) (u : Rec) := fun t k l m n o e f p g h q r s i j v => code u c (blockK 3 (seqK (code u (.clear zl6 d) (postK zl6 (loopK u a (blockK 2 (seqK (code u (.clear zl8 b) (retK [.tmp 12])) (retK [.tmp 12])))))) (postK zl6 (loopK u a (blockK 2 (seqK (code u (.clear zl8 b) (retK [.tmp 12])) (retK [.tmp 12]))))))) (s3_86 t k l m n o e f p g h q r s i j v) v

noncomputable def P3_86 := hid (F3_86 b3_57 c3_86 c3_93 c3_94)
def s3_93 (l : Option Addr) (e f g : Nat) (h i : Option Addr) (a b : Nat) (j : Option Addr) (c d : Nat) (k : Int) (m : AMem) : List Value := jk 5 (.slice l e f :: jk 7 (.pointer (some ⟨g, 0, none⟩) :: junk :: .pointer h :: .slice i a b :: .slice j c d :: jk 2 (.int .i64 k :: jk 248 [])))
noncomputable def F3_93 (a b c : ACode) (p : Rec) := fun o h i j k l d e m f g n q => code p b (postK zl6 (loopK p a (blockK 2 (seqK (code p (.clear zl8 c) (retK [.tmp 12])) (retK [.tmp 12]))))) (s3_93 o h i j k l d e m f g n q) q

noncomputable def P3_93 := hid (F3_93 b3_57 c3_93 c3_94)
theorem QP3_5_eq (N : Rec) (b c : ACode) (n : Rec → Int → Int → (Option Addr) → Nat → Nat → Int → (Option Addr) → Nat → Nat → Nat → Bool → AMem → Res) (r : Eq n fun N A B C g h D E i j o k O => code N (.cond (.tmp 48) (.seq (.ops o3_7) (.ret)) (.skip)) (seqK (code N (.seq (.ops o3_11) (.seq (.ops o3_13) (.seq (.ops o3_15) (.seq (.ops o3_17) (.seq (.seq (.ops o3_20) (.block 0 (.clear zl2 (.loop b)))) (.clear zl10 c)))))) (retK [.tmp 12])) (retK [.tmp 12])) (s3_5 A B C g h D E i j o k O) O) (d) (l : d = F3_22 b c) (A B : Int) (C : Option Addr) (g h : Nat) (D : Int) (E : Option Addr) (i j o : Nat) (k : Bool) (O : AMem) : n N A B C g h D E i j o k O = (if k = true then (Option.bind (N.call 6 [] []) fun F => (Option.bind (boolOf? (some F.1)) fun G => some (.bool G, O))) else (Option.bind (intOf? .i64 (O.ld o 0)) fun H => (Option.bind (intOf? .i64 (O.ld o 1)) fun I => (Option.bind (N.call 8 [.agg #[.int .i64 H, .int .i64 I]] []) fun J => (Option.bind (intOf? .i64 (some J.1)) fun K => (Option.bind (N.call 7 [.int .i64 K] O) fun m => (Option.bind (tupOf? 2 m.1) fun p => (Option.bind (p[0]?) fun L => (Option.bind (aggOf? 3 L) fun a => (Option.bind (sliceOf? (a[0]?)) fun e => (Option.bind (intOf? .i64 (a[1]?)) fun s => (Option.bind (intOf? .i64 (a[2]?)) fun t => (Option.bind (p[1]?) fun u => (Option.bind (boolOf? (some u)) fun M => (Option.bind (AMem.wr (m.2 ++ [AObj.cells [.slice none 0 0, .int .i64 0, .int .i64 0] ⟨false, 0⟩]) m.2.length 0 [.slice e.1 e.2.1 e.2.2, .int .i64 s, .int .i64 t]) fun f => (Option.bind (intOf? .i64 (f.ld o 0)) fun v => (Option.bind (intOf? .i64 (f.ld o 1)) fun w => (Option.bind (N.call 8 [.agg #[.int .i64 v, .int .i64 w]] []) fun x => (Option.bind (intOf? .i64 (some x.1)) fun y => (Option.bind (N.call 9 [.int .i64 y] f) fun q => (Option.bind (ptrOf? (some q.1)) fun z => d N A B C g h D E i j o m.2.length z none 0 0 none 0 0 0 q.2))))))))))))))))))))) := by
  subst r; subst l; kernel_rfl
abbrev P3_5_eq (L : Rec) := QP3_5_eq L _ _ P3_5 (hE _) P3_22 (hE _)
theorem QP3_22_eq (D : Rec) (a b c d e : ACode) (C : HB D a (.post (.seq (.seq (.ops o3_25) (.clear zl0 b)) (.seq (.block 1 (.seq (.ops o3_32) (.seq (.seq (.ops o3_35) (.cond (.tmp 80) (.seq (.ops o3_38) (.ret)) (.skip))) (.seq (.seq (.ops o3_43) (.cond (.tmp 82) (.seq (.ops o3_46) (.ret)) (.skip))) (.clear zl1 c))))) (.clear zl2 d))) zl2)) (f) (h : f = F3_22 a e) (g) (i : g = F3_26 a b c d e) (x y : Int) (z : Option Addr) (o p : Nat) (w : Int) (A : Option Addr) (q r B s : Nat) (t u : Option Addr) (j k : Nat) (v : Option Addr) (l m : Nat) (n : Int) (E : AMem) : f D x y z o p w A q r B s t u j k v l m n E = g D x y z o p w A q r B s t u j k v l m n (decide (n < (IntKind.wrap .i64 (1 + (Int.tmod (IntKind.wrap .i64 w) 4))))) E := by
  subst h; subst i; exact (C _ _ _).trans (by kernel_rfl)
abbrev P3_22_eq (L : Rec) (hL : HL L) := QP3_22_eq L _ _ _ _ _ (hL b3_22) P3_22 (hE _) P3_26 (hE _)
theorem QP3_26_eq (a2 : Rec) (g j k b : ACode) (l : Rec → Int → Int → (Option Addr) → Nat → Nat → Int → (Option Addr) → Nat → Nat → Nat → Nat → (Option Addr) → (Option Addr) → Nat → Nat → (Option Addr) → Nat → Nat → Int → Bool → AMem → Res) (x : Eq l fun a2 F G H h i V J m n w o p q c d r e f y z a3 => code a2 (.cond (.tmp 64) (.skip) (.exit 0)) (seqK (code a2 (.seq (.block 1 (.seq (.ops o3_32) (.seq (.seq (.ops o3_35) (.cond (.tmp 80) (.seq (.ops o3_38) (.ret)) (.skip))) (.seq (.seq (.ops o3_43) (.cond (.tmp 82) (.seq (.ops o3_46) (.ret)) (.skip))) (.clear zl1 j))))) (.clear zl2 k)) (postK zl2 (loopK a2 g (blockK 0 (seqK (code a2 (.clear zl10 b) (retK [.tmp 12])) (retK [.tmp 12])))))) (postK zl2 (loopK a2 g (blockK 0 (seqK (code a2 (.clear zl10 b) (retK [.tmp 12])) (retK [.tmp 12])))))) (s3_26 F G H h i V J m n w o p q c d r e f y z a3) a3) (s) (A : s = F3_49 g j k b) (t) (B : t = F3_53 b) (F G : Int) (H : Option Addr) (h i : Nat) (V : Int) (J : Option Addr) (m n w o : Nat) (p q : Option Addr) (c d : Nat) (r : Option Addr) (e f : Nat) (y : Int) (z : Bool) (a3 : AMem) : l a2 F G H h i V J m n w o p q c d r e f y z a3 = (if z = true then (Option.bind (intOf? .i64 (a3.ld w 0)) fun W => (Option.bind (intOf? .i64 (a3.ld w 1)) fun X => (Option.bind (a2.call 11 [.agg #[.int .i64 W, .int .i64 X]] []) fun Y => (Option.bind (aggOf? 2 Y.1) fun D => (Option.bind (intOf? .i64 (D[0]?)) fun Z => (Option.bind (intOf? .i64 (D[1]?)) fun a0 => (Option.bind (a2.call 10 [.agg #[.int .i64 Z, .int .i64 a0], .int .i64 F, .int .i64 G, .slice H h i] a3) fun C => (Option.bind (ptrOf? (some C.1)) fun I => (Option.bind (intOf? .i64 (C.2.ld w 0)) fun a1 => (Option.bind (intOf? .i64 (C.2.ld w 1)) fun K => (Option.bind (a2.call 12 [.agg #[.int .i64 a1, .int .i64 K], .int .i64 F, .int .i64 G, .slice H h i] C.2) fun a => (Option.bind (boolOf? (some a.1)) fun L => (if (!((!(Option.isNone I)) == L)) = true then some (.bool false, a.2) else (if (Option.isNone I) = true then (Option.bind (intOf? .i64 (a.2.ld w 0)) fun M => (Option.bind (intOf? .i64 (a.2.ld w 1)) fun N => (Option.bind (a2.call 11 [.agg #[.int .i64 M, .int .i64 N]] []) fun O => (Option.bind (aggOf? 2 O.1) fun u => (Option.bind (intOf? .i64 (u[0]?)) fun P => (Option.bind (intOf? .i64 (u[1]?)) fun Q => (Option.bind (a2.call 10 [.agg #[.int .i64 P, .int .i64 Q], .int .i64 F, .int .i64 G, .slice H h i] a.2) fun E => (Option.bind (ptrOf? (some E.1)) fun R => (Option.bind (a2.call 13 [.pointer R] E.2) fun v => (Option.bind (boolOf? (some v.1)) fun S => (if S = true then (Option.bind (a2.call 6 [] []) fun T => (Option.bind (boolOf? (some T.1)) fun U => some (.bool U, v.2))) else some (.bool false, v.2)))))))))))) else s a2 F G H h i V J m n w o p q c d r e f y I a.2)))))))))))))) else t a2 J m n o p q c d r e f a3) := by
  subst x; subst A; subst B; kernel_rfl
abbrev P3_26_eq (L : Rec) := QP3_26_eq L _ _ _ _ P3_26 (hE _) P3_49 (hE _) P3_53 (hE _)
theorem QP3_49_eq (aK : Rec) (h n i : ACode) (o : Rec → Int → Int → (Option Addr) → Nat → Nat → Int → (Option Addr) → Nat → Nat → Nat → Nat → (Option Addr) → (Option Addr) → Nat → Nat → (Option Addr) → Nat → Nat → Int → (Option Addr) → AMem → Res) (t : Eq o fun aK a6 a7 a8 p q aD aE u v a5 w x y j k z l m A r aL => code aK (.seq (.ops o3_50) (.ops o3_51)) (blockK 1 (seqK (code aK (.clear zl2 n) (postK zl2 (loopK aK h (blockK 0 (seqK (code aK (.clear zl10 i) (retK [.tmp 12])) (retK [.tmp 12])))))) (postK zl2 (loopK aK h (blockK 0 (seqK (code aK (.clear zl10 i) (retK [.tmp 12])) (retK [.tmp 12]))))))) (s3_49 a6 a7 a8 p q aD aE u v a5 w x y j k z l m A r aL) aL) (s) (B : s = F3_52 h n i) (a6 a7 : Int) (a8 : Option Addr) (p q : Nat) (aD : Int) (aE : Option Addr) (u v a5 w : Nat) (x y : Option Addr) (j k : Nat) (z : Option Addr) (l m : Nat) (A : Int) (r : Option Addr) (aL : AMem) : o aK a6 a7 a8 p q aD aE u v a5 w x y j k z l m A r aL = (Option.bind (rowOf (aL ++ [AObj.cells [.pointer r] ⟨false, 0⟩]) 1 (.slice (some ⟨aL.length, 0, none⟩) 1 1)) fun a3 => (appendK 1 8 y j k 1 a3 (aL ++ [AObj.cells [.pointer r] ⟨false, 0⟩]) fun aF aG aH a4 => (Option.bind (intOf? .i64 (a4.ld a5 0)) fun aI => (Option.bind (intOf? .i64 (a4.ld a5 1)) fun aJ => (Option.bind (aK.call 14 [.agg #[.int .i64 aI, .int .i64 aJ], .int .i64 a6, .int .i64 a7, .slice a8 p q] a4) fun C => (Option.bind (aggOf? 31 C.1) fun a => (Option.bind (intOf? .i64 (a[0]?)) fun E => (Option.bind (intOf? .i64 (a[1]?)) fun F => (Option.bind (intOf? .i64 (a[2]?)) fun G => (Option.bind (sliceOf? (a[3]?)) fun b => (Option.bind (intOf? .i64 (a[4]?)) fun H => (Option.bind (intOf? .i64 (a[5]?)) fun I => (Option.bind (sliceOf? (a[6]?)) fun c => (Option.bind (intOf? .i64 (a[7]?)) fun J => (Option.bind (intOf? .i64 (a[8]?)) fun K => (Option.bind (intOf? .i64 (a[9]?)) fun L => (Option.bind (sliceOf? (a[10]?)) fun d => (Option.bind (sliceOf? (a[11]?)) fun e => (Option.bind (boolOf? (a[12]?)) fun M => (Option.bind (intOf? .i64 (a[13]?)) fun N => (Option.bind (sliceOf? (a[14]?)) fun f => (Option.bind (intOf? .i64 (a[15]?)) fun O => (Option.bind (sliceOf? (a[16]?)) fun g => (Option.bind (intOf? .i64 (a[17]?)) fun P => (Option.bind (boolOf? (a[18]?)) fun Q => (Option.bind (intOf? .u64 (a[19]?)) fun R => (Option.bind (intOf? .i64 (a[20]?)) fun S => (Option.bind (intOf? .i64 (a[21]?)) fun T => (Option.bind (intOf? .i64 (a[22]?)) fun U => (Option.bind (intOf? .i64 (a[23]?)) fun V => (Option.bind (boolOf? (a[24]?)) fun W => (Option.bind (boolOf? (a[25]?)) fun X => (Option.bind (intOf? .u64 (a[26]?)) fun Y => (Option.bind (intOf? .i64 (a[27]?)) fun Z => (Option.bind (intOf? .i64 (a[28]?)) fun a0 => (Option.bind (boolOf? (a[29]?)) fun a1 => (Option.bind (intOf? .i64 (a[30]?)) fun a2 => (Option.bind (rowOf (C.2 ++ [AObj.cells [.int .i64 E, .int .i64 F, .int .i64 G, .slice b.1 b.2.1 b.2.2, .int .i64 H, .int .i64 I, .slice c.1 c.2.1 c.2.2, .int .i64 J, .int .i64 K, .int .i64 L, .slice d.1 d.2.1 d.2.2, .slice e.1 e.2.1 e.2.2, .bool M, .int .i64 N, .slice f.1 f.2.1 f.2.2, .int .i64 O, .slice g.1 g.2.1 g.2.2, .int .i64 P, .bool Q, .int .u64 R, .int .i64 S, .int .i64 T, .int .i64 U, .int .i64 V, .bool W, .bool X, .int .u64 Y, .int .i64 Z, .int .i64 a0, .bool a1, .int .i64 a2] ⟨false, 0⟩]) 31 (.slice (some ⟨C.2.length, 0, none⟩) 1 31)) fun D => (appendK 31 336 z l m 1 D (C.2 ++ [AObj.cells [.int .i64 E, .int .i64 F, .int .i64 G, .slice b.1 b.2.1 b.2.2, .int .i64 H, .int .i64 I, .slice c.1 c.2.1 c.2.2, .int .i64 J, .int .i64 K, .int .i64 L, .slice d.1 d.2.1 d.2.2, .slice e.1 e.2.1 e.2.2, .bool M, .int .i64 N, .slice f.1 f.2.1 f.2.2, .int .i64 O, .slice g.1 g.2.1 g.2.2, .int .i64 P, .bool Q, .int .u64 R, .int .i64 S, .int .i64 T, .int .i64 U, .int .i64 V, .bool W, .bool X, .int .u64 Y, .int .i64 Z, .int .i64 a0, .bool a1, .int .i64 a2] ⟨false, 0⟩]) fun a9 aA aB aC => s aK a6 a7 a8 p q aD aE u v a5 w x aF aG aH a9 aA aB A aC))))))))))))))))))))))))))))))))))))))) := by
  subst t; subst B; kernel_rfl
abbrev P3_49_eq (L : Rec) := QP3_49_eq L _ _ _ P3_49 (hE _) P3_52 (hE _)
theorem QP3_53_eq (r : Rec) (e f : ACode) (g : Rec → (Option Addr) → Nat → Nat → Nat → (Option Addr) → (Option Addr) → Nat → Nat → (Option Addr) → Nat → Nat → AMem → Res) (i : Eq g fun r q j k l m n a b o c d s => code r (.seq (.seq (.ops o3_55) (.block 2 (.clear zl6 (.loop e)))) (.clear zl8 f)) (retK [.tmp 12]) (s3_53 q j k l m n a b o c d s) s) (h) (p : h = F3_57 e f) (q : Option Addr) (j k l : Nat) (m n : Option Addr) (a b : Nat) (o : Option Addr) (c d : Nat) (s : AMem) : g r q j k l m n a b o c d s = h r q j k l m n a b o c d 0 s := by
  subst i; subst p; kernel_rfl
abbrev P3_53_eq (L : Rec) := QP3_53_eq L _ _ P3_53 (hE _) P3_57 (hE _)
theorem QP3_52_eq (z : Rec) (e f : ACode) (g) (i : g = F3_22 e f) (h : Rec → Int → Int → (Option Addr) → Nat → Nat → Int → (Option Addr) → Nat → Nat → Nat → Nat → (Option Addr) → (Option Addr) → Nat → Nat → (Option Addr) → Nat → Nat → Int → AMem → Res) (j : Eq h fun z t u v k l w x m n y o p q a b r c d s A => code z (.ops o3_52) (postK zl2 (loopK z e (blockK 0 (seqK (code z (.clear zl10 f) (retK [.tmp 12])) (retK [.tmp 12]))))) (s3_52 t u v k l w x m n y o p q a b r c d s A) A) (t u : Int) (v : Option Addr) (k l : Nat) (w : Int) (x : Option Addr) (m n y o : Nat) (p q : Option Addr) (a b : Nat) (r : Option Addr) (c d : Nat) (s : Int) (A : AMem) : h z t u v k l w x m n y o p q a b r c d s A = g z t u v k l w x m n y o p q a b r c d (IntKind.wrap .i64 (s + 1)) A := by
  subst i; subst j; kernel_rfl
abbrev P3_52_eq (L : Rec) := QP3_52_eq L _ _ P3_22 (hE _) P3_52 (hE _)
theorem QP3_57_eq (S : Rec) (d h i e : ACode) (R : HB S d (.post (.seq (.seq (.ops o3_60) (.cond (.tmp 108) (.skip) (.exit 2))) (.seq (.block 3 (.seq (.ops o3_67) (.seq (.draw f3_69 0 o3_69 [(10, 5), (10, 9), (11, 5), (11, 9)]) (.clear zl5 h)))) (.clear zl6 i))) zl6)) (j) (p : j = F3_57 d e) (k) (q : k = F3_94 e) (l) (r : l = F3_70 d h i e) (M : Option Addr) (s A t : Nat) (u v : Option Addr) (a m : Nat) (z : Option Addr) (n x : Nat) (g : Int) (T : AMem) : j S M s A t u v a m z n x g T = (if (decide (g < (Int.ofNat s))) = true then (match M with | some B => (if (0 : Int) ≤ g ∧ g < (Int.ofNat s) then (Option.bind (intOf? .u8 (T.ld B.block (B.off + ((Int.toNat g) * 1)))) fun f => (if (Int.ofNat a) = 0 then none else (match v with | some C => (if (0 : Int) ≤ (Int.tmod (IntKind.wrap .i64 f) (Int.ofNat a)) ∧ (Int.tmod (IntKind.wrap .i64 f) (Int.ofNat a)) < (Int.ofNat a) then (Option.bind (ptrOf? (AMem.ld ((T ++ [AObj.cells ev0 ⟨false, 0⟩]) ++ [AObj.cells ev0 ⟨false, 0⟩]) C.block (C.off + ((Int.toNat (Int.tmod (IntKind.wrap .i64 f) (Int.ofNat a))) * 1)))) fun N => (Option.bind (S.call 15 [.pointer N, .pointer u] ((T ++ [AObj.cells ev0 ⟨false, 0⟩]) ++ [AObj.cells ev0 ⟨false, 0⟩])) fun w => (Option.bind (aggOf? 5 w.1) fun c => (Option.bind (intOf? .i64 (c[0]?)) fun O => (Option.bind (intOf? .i64 (c[1]?)) fun P => (Option.bind (intOf? .i64 (c[2]?)) fun Q => (Option.bind (boolOf? (c[3]?)) fun D => (Option.bind (boolOf? (c[4]?)) fun E => (match z with | some y => (if (0 : Int) ≤ (Int.tmod (IntKind.wrap .i64 f) (Int.ofNat a)) ∧ (Int.tmod (IntKind.wrap .i64 f) (Int.ofNat a)) < (Int.ofNat n) then (Option.bind (S.call 16 [.pointer (some ⟨y.block, (y.off + ((Int.toNat (Int.tmod (IntKind.wrap .i64 f) (Int.ofNat a))) * 31)), none⟩), .pointer (some ⟨t, 0, none⟩)] w.2) fun o => (Option.bind (aggOf? 5 o.1) fun b => (Option.bind (intOf? .i64 (b[0]?)) fun F => (Option.bind (intOf? .i64 (b[1]?)) fun G => (Option.bind (intOf? .i64 (b[2]?)) fun H => (Option.bind (boolOf? (b[3]?)) fun I => (Option.bind (boolOf? (b[4]?)) fun J => (Option.bind (o.2.wr T.length 0 [.int .i64 O, .int .i64 P, .int .i64 Q, .bool D, .bool E]) fun K => (Option.bind (K.wr (List.length (T ++ [AObj.cells ev0 ⟨false, 0⟩])) 0 [.int .i64 F, .int .i64 G, .int .i64 H, .bool I, .bool J]) fun L => (if chkOk [(10, 5), (10, 9), (11, 5), (11, 9)] [(11, (List.length (T ++ [AObj.cells ev0 ⟨false, 0⟩]))), (10, T.length)] [(9, (w.2, o.2)), (5, (((T ++ [AObj.cells ev0 ⟨false, 0⟩]) ++ [AObj.cells ev0 ⟨false, 0⟩]), w.2))] = true then l S M s A t u v a m z n x g (Int.tmod (IntKind.wrap .i64 f) (Int.ofNat a)) T.length (List.length (T ++ [AObj.cells ev0 ⟨false, 0⟩])) L else none)))))))))) else none) | none => none))))))))) else none) | none => none))) else none) | none => none) else k S t u v a m T) := by
  subst p; subst q; subst r; exact (R _ _ _).trans (by kernel_rfl)
abbrev P3_57_eq (L : Rec) (hL : HL L) := QP3_57_eq L _ _ _ _ (hL b3_57) P3_57 (hE _) P3_94 (hE _) P3_70 (hE _)
theorem QP3_94_eq (V : Rec) (h : ACode) (j : Rec → Nat → (Option Addr) → (Option Addr) → Nat → Nat → AMem → Res) (p : Eq j fun V e b q i k W => code V (.seq (.ops o3_95) (.seq (.ops o3_97) (.seq (.seq (.draw [] 0 o3_100 [(41, 42)]) (.clear zl7 h)) (.seq (.draw [] 0 o3_107 [(3, 1), (9, 7)]) (.ret))))) (retK [.tmp 12]) (s3_94 e b q i k W) W) (a) (l : a = F3_101 h) (e : Nat) (b q : Option Addr) (i k : Nat) (W : AMem) : j V e b q i k W = (Option.bind (V.call 13 [.pointer none] (W ++ [AObj.cells [.int .i64 0, .int .i64 0, .int .i64 0, .slice none 0 0, .int .i64 0, .int .i64 0, .slice none 0 0, .pointer none, .slice none 0 0, .pointer none, .int .i64 0, .slice none 0 0, .pointer none, .int .i64 0] ⟨false, 0⟩])) fun v => (Option.bind (boolOf? (some v.1)) fun Q => (if (!Q) = true then a V e b true v.2 else (Option.bind (V.call 13 [.pointer (some ⟨W.length, 0, none⟩)] v.2) fun w => (Option.bind (boolOf? (some w.1)) fun R => (if (!R) = true then a V e b true w.2 else (Option.bind (V.call 15 [.pointer none, .pointer b] w.2) fun x => (Option.bind (aggOf? 5 x.1) fun f => (Option.bind (intOf? .i64 (f[0]?)) fun S => (Option.bind (intOf? .i64 (f[1]?)) fun T => (Option.bind (intOf? .i64 (f[2]?)) fun U => (Option.bind (boolOf? (f[3]?)) fun y => (Option.bind (boolOf? (f[4]?)) fun z => (if (!((S == 0) && ((T == 0) && ((U == 0) && ((y == false) && (z == false)))))) = true then a V e b true x.2 else (Option.bind (V.call 15 [.pointer (some ⟨W.length, 0, none⟩), .pointer b] x.2) fun m => (Option.bind (aggOf? 5 m.1) fun c => (Option.bind (intOf? .i64 (c[0]?)) fun A => (Option.bind (intOf? .i64 (c[1]?)) fun B => (Option.bind (intOf? .i64 (c[2]?)) fun C => (Option.bind (boolOf? (c[3]?)) fun D => (Option.bind (boolOf? (c[4]?)) fun E => (if (!((A == 0) && ((B == 0) && ((C == 0) && ((D == false) && (E == false)))))) = true then a V e b true m.2 else (Option.bind (V.call 20 [.pointer none] m.2) fun r => (Option.bind (sliceOf? (some r.1)) fun F => (Option.bind (V.call 20 [.pointer (some ⟨W.length, 0, none⟩)] r.2) fun s => (Option.bind (sliceOf? (some s.1)) fun G => (Option.bind (V.call 18 [.pointer none] s.2) fun t => (Option.bind (intOf? .i64 (some t.1)) fun H => (Option.bind (V.call 18 [.pointer (some ⟨W.length, 0, none⟩)] t.2) fun g => (Option.bind (intOf? .i64 (some g.1)) fun I => (if ((IntKind.wrap .i64 ((IntKind.wrap .i64 ((IntKind.wrap .i64 ((Int.ofNat F.2.1) + (Int.ofNat G.2.1))) + H)) + I)) != 0) = true then a V e b true g.2 else (match q with | some n => (if (0 : Int) ≤ 0 ∧ 0 < (Int.ofNat i) then (Option.bind (ptrOf? (g.2.ld n.block n.off)) fun J => (Option.bind (V.call 9 [.int .i64 0] g.2) fun o => (Option.bind (ptrOf? (some o.1)) fun K => (Option.bind (V.call 15 [.pointer J, .pointer K] o.2) fun u => (Option.bind (aggOf? 5 u.1) fun d => (Option.bind (intOf? .i64 (d[0]?)) fun L => (Option.bind (intOf? .i64 (d[1]?)) fun M => (Option.bind (intOf? .i64 (d[2]?)) fun N => (Option.bind (boolOf? (d[3]?)) fun O => (Option.bind (boolOf? (d[4]?)) fun P => (if chkOk [(41, 42)] [(41, n.block)] [(42, (g.2, o.2))] = true then a V e b (!((L == 0) && ((M == 0) && ((N == 0) && ((O == false) && (P == false)))))) u.2 else none))))))))))) else none) | none => none)))))))))))))))))))))))))))))))) := by
  subst p; subst l; kernel_rfl
abbrev P3_94_eq (L : Rec) := QP3_94_eq L _ P3_94 (hE _) P3_101 (hE _)
theorem QP3_101_eq (p : Rec) (c : Rec → Nat → (Option Addr) → Bool → AMem → Res) (g : Eq c fun p a h d q => code p (.cond (.tmp 253) (.seq (.ops o3_103) (.ret)) (.skip)) (seqK (code p (.seq (.draw [] 0 o3_107 [(3, 1), (9, 7)]) (.ret)) (retK [.tmp 12])) (retK [.tmp 12])) (s3_101 a h d q) q) (a : Nat) (h : Option Addr) (d : Bool) (q : AMem) : c p a h d q = (if d = true then some (.bool false, q) else (Option.bind (p.call 22 [.pointer h, .int .i64 0, .int .i64 1000] q) fun e => (Option.bind (sliceOf? (some e.1)) fun i => (Option.bind (sliceOf? (e.2.ld a 0)) fun j => (Option.bind (p.call 21 [.slice i.1 i.2.1 i.2.2, .slice j.1 j.2.1 j.2.2] e.2) fun b => (Option.bind (boolOf? (some b.1)) fun l => (if l = true then (Option.bind (p.call 23 [.pointer h] b.2) fun f => (Option.bind (intOf? .i64 (some f.1)) fun m => (Option.bind (intOf? .i64 (f.2.ld a 1)) fun n => (if (m == n) = true then (Option.bind (p.call 6 [] []) fun o => (Option.bind (boolOf? (some o.1)) fun k => (if chkOk [(3, 1), (9, 7)] [(9, a), (3, a)] [(7, (b.2, f.2)), (1, (q, e.2))] = true then some (.bool k, f.2) else none))) else (if chkOk [(3, 1), (9, 7)] [(9, a), (3, a)] [(7, (b.2, f.2)), (1, (q, e.2))] = true then some (.bool false, f.2) else none))))) else (if chkOk [(3, 1), (9, 7)] [(3, a)] [(7, (b.2, b.2)), (1, (q, e.2))] = true then some (.bool false, b.2) else none)))))))) := by
  subst g; kernel_rfl
abbrev P3_101_eq (L : Rec) := QP3_101_eq L P3_101 (hE _)
theorem QP3_70_eq (V : Rec) (q t u v r : ACode) (w : Rec → (Option Addr) → Nat → Nat → Nat → (Option Addr) → (Option Addr) → Nat → Nat → (Option Addr) → Nat → Nat → Int → Int → Nat → Nat → AMem → Res) (z : Eq w fun V y i j k l g b e h c f m a n o W => code V (.seq (.seq (.draw [] 0 o3_72 [(55, 50)]) (.clear zl3 t)) (.seq (.ops o3_79) (.seq (.seq (.ops o3_82) (.cond (.tmp 191) (.ops o3_84) (.skip))) (.clear zl4 u)))) (blockK 3 (seqK (code V (.clear zl6 v) (postK zl6 (loopK V q (blockK 2 (seqK (code V (.clear zl8 r) (retK [.tmp 12])) (retK [.tmp 12])))))) (postK zl6 (loopK V q (blockK 2 (seqK (code V (.clear zl8 r) (retK [.tmp 12])) (retK [.tmp 12]))))))) (s3_70 y i j k l g b e h c f m a n o W) W) (d) (A : d = F3_73 q t u v r) (y : Option Addr) (i j k : Nat) (l g : Option Addr) (b e : Nat) (h : Option Addr) (c f : Nat) (m a : Int) (n o : Nat) (W : AMem) : w V y i j k l g b e h c f m a n o W = (Option.bind (intOf? .i64 (W.ld n 0)) fun M => (Option.bind (intOf? .i64 (W.ld o 0)) fun N => (if (M != N) = true then d V y i j k l g b e h c f m a true W else (Option.bind (intOf? .i64 (W.ld n 1)) fun O => (Option.bind (intOf? .i64 (W.ld o 1)) fun P => (if (O != P) = true then d V y i j k l g b e h c f m a true W else (Option.bind (intOf? .i64 (W.ld n 2)) fun Q => (Option.bind (intOf? .i64 (W.ld o 2)) fun R => (if (Q != R) = true then d V y i j k l g b e h c f m a true W else (Option.bind (boolOf? (W.ld n 3)) fun S => (Option.bind (boolOf? (W.ld o 3)) fun T => (if (!(S == T)) = true then d V y i j k l g b e h c f m a true W else (Option.bind (boolOf? (W.ld n 4)) fun U => (Option.bind (boolOf? (W.ld o 4)) fun F => (if (!(U == F)) = true then d V y i j k l g b e h c f m a true W else (match g with | some B => (if (0 : Int) ≤ a ∧ a < (Int.ofNat b) then (Option.bind (ptrOf? (W.ld B.block (B.off + ((Int.toNat a) * 1)))) fun G => (Option.bind (V.call 13 [.pointer G] W) fun C => (Option.bind (boolOf? (some C.1)) fun H => (match h with | some D => (if (0 : Int) ≤ a ∧ a < (Int.ofNat c) then (Option.bind (V.call 17 [.pointer (some ⟨D.block, (D.off + ((Int.toNat a) * 31)), none⟩)] C.2) fun p => (Option.bind (boolOf? (some p.1)) fun I => (if (!(H == I)) = true then d V y i j k l g b e h c f m a true p.2 else (match g with | some E => (if (0 : Int) ≤ a ∧ a < (Int.ofNat b) then (Option.bind (ptrOf? (p.2.ld E.block (E.off + ((Int.toNat a) * 1)))) fun J => (Option.bind (V.call 18 [.pointer J] p.2) fun s => (Option.bind (intOf? .i64 (some s.1)) fun K => (match h with | some x => (if (0 : Int) ≤ a ∧ a < (Int.ofNat c) then (Option.bind (intOf? .i64 (s.2.ld x.block ((x.off + ((Int.toNat a) * 31)) + 30))) fun L => (if chkOk [(55, 50)] [(55, x.block)] [(50, (p.2, s.2))] = true then d V y i j k l g b e h c f m a (K != L) s.2 else none)) else none) | none => none)))) else none) | none => none)))) else none) | none => none)))) else none) | none => none)))))))))))))))) := by
  subst z; subst A; kernel_rfl
abbrev P3_70_eq (L : Rec) := QP3_70_eq L _ _ _ _ _ P3_70 (hE _) P3_73 (hE _)
theorem QP3_73_eq (A : Rec) (a l h b : ACode) (m : Rec → (Option Addr) → Nat → Nat → Nat → (Option Addr) → (Option Addr) → Nat → Nat → (Option Addr) → Nat → Nat → Int → Int → Bool → AMem → Res) (t : Eq m fun A w n o p q r e f i c g s d k B => code A (.cond (.tmp 186) (.seq (.ops o3_75) (.ret)) (.skip)) (seqK (code A (.seq (.ops o3_79) (.seq (.seq (.ops o3_82) (.cond (.tmp 191) (.ops o3_84) (.skip))) (.clear zl4 l))) (blockK 3 (seqK (code A (.clear zl6 h) (postK zl6 (loopK A a (blockK 2 (seqK (code A (.clear zl8 b) (retK [.tmp 12])) (retK [.tmp 12])))))) (postK zl6 (loopK A a (blockK 2 (seqK (code A (.clear zl8 b) (retK [.tmp 12])) (retK [.tmp 12])))))))) (blockK 3 (seqK (code A (.clear zl6 h) (postK zl6 (loopK A a (blockK 2 (seqK (code A (.clear zl8 b) (retK [.tmp 12])) (retK [.tmp 12])))))) (postK zl6 (loopK A a (blockK 2 (seqK (code A (.clear zl8 b) (retK [.tmp 12])) (retK [.tmp 12])))))))) (s3_73 w n o p q r e f i c g s d k B) B) (j) (u : j = F3_86 a l h b) (w : Option Addr) (n o p : Nat) (q r : Option Addr) (e f : Nat) (i : Option Addr) (c g : Nat) (s d : Int) (k : Bool) (B : AMem) : m A w n o p q r e f i c g s d k B = (if k = true then some (.bool false, B) else (match i with | some x => (if (0 : Int) ≤ d ∧ d < (Int.ofNat c) then (Option.bind (boolOf? (B.ld x.block ((x.off + ((Int.toNat d) * 31)) + 12))) fun z => (if z = true then (match i with | some y => (if (0 : Int) ≤ d ∧ d < (Int.ofNat c) then (Option.bind (sliceOf? (B.ld y.block ((y.off + ((Int.toNat d) * 31)) + 14))) fun v => j A w n o p q r e f i c g s d v.1 v.2.1 v.2.2 B) else none) | none => none) else j A w n o p q r e f i c g s d none 0 0 B)) else none) | none => none)) := by
  subst t; subst u; kernel_rfl
abbrev P3_73_eq (L : Rec) := QP3_73_eq L _ _ _ _ P3_73 (hE _) P3_86 (hE _)
theorem QP3_86_eq (D : Rec) (b j c : ACode) (k : Rec → (Option Addr) → Nat → Nat → Nat → (Option Addr) → (Option Addr) → Nat → Nat → (Option Addr) → Nat → Nat → Int → Int → (Option Addr) → Nat → Nat → AMem → Res) (n : Eq k fun D A o p q r l a d s e f t i u g h E => code D (.seq (.ops o3_87) (.cond (.tmp 204) (.seq (.ops o3_90) (.ret)) (.skip))) (blockK 3 (seqK (code D (.clear zl6 j) (postK zl6 (loopK D b (blockK 2 (seqK (code D (.clear zl8 c) (retK [.tmp 12])) (retK [.tmp 12])))))) (postK zl6 (loopK D b (blockK 2 (seqK (code D (.clear zl8 c) (retK [.tmp 12])) (retK [.tmp 12]))))))) (s3_86 A o p q r l a d s e f t i u g h E) E) (m) (v : m = F3_93 b j c) (A : Option Addr) (o p q : Nat) (r l : Option Addr) (a d : Nat) (s : Option Addr) (e f : Nat) (t i : Int) (u : Option Addr) (g h : Nat) (E : AMem) : k D A o p q r l a d s e f t i u g h E = (match l with | some y => (if (0 : Int) ≤ i ∧ i < (Int.ofNat a) then (Option.bind (ptrOf? (E.ld y.block (y.off + ((Int.toNat i) * 1)))) fun B => (Option.bind (D.call 20 [.pointer B] E) fun z => (Option.bind (sliceOf? (some z.1)) fun w => (Option.bind (D.call 19 [.slice w.1 w.2.1 w.2.2, .slice u g h] z.2) fun x => (Option.bind (boolOf? (some x.1)) fun C => (if (!C) = true then some (.bool false, x.2) else m D A o p q r l a d s e f t x.2)))))) else none) | none => none) := by
  subst n; subst v; kernel_rfl
abbrev P3_86_eq (L : Rec) := QP3_86_eq L _ _ _ P3_86 (hE _) P3_93 (hE _)
theorem QP3_93_eq (s : Rec) (e f : ACode) (g) (i : g = F3_57 e f) (h : Rec → (Option Addr) → Nat → Nat → Nat → (Option Addr) → (Option Addr) → Nat → Nat → (Option Addr) → Nat → Nat → Int → AMem → Res) (j : Eq h fun s r k l m n o a b p c d q t => code s (.ops o3_93) (postK zl6 (loopK s e (blockK 2 (seqK (code s (.clear zl8 f) (retK [.tmp 12])) (retK [.tmp 12]))))) (s3_93 r k l m n o a b p c d q t) t) (r : Option Addr) (k l m : Nat) (n o : Option Addr) (a b : Nat) (p : Option Addr) (c d : Nat) (q : Int) (t : AMem) : h s r k l m n o a b p c d q t = g s r k l m n o a b p c d (IntKind.wrap .i64 (q + 1)) t := by
  subst i; subst j; kernel_rfl
abbrev P3_93_eq (L : Rec) := QP3_93_eq L _ _ P3_57 (hE _) P3_93 (hE _)
theorem QE3 (A : Rec) (h k i : ACode) (c) (l : c = F3_5 h k i) (a b m n : Int) (j : Option Addr) (d e : Nat) (o : Int) (p : Option Addr) (f g : Nat) (B : AMem) : enterF A ⟨269, [.tmp 12], .seq (.ops o3_1) (.seq (.seq (.ops o3_4) (.clear zl9 k)) (.seq (.ops o3_11) (.seq (.ops o3_13) (.seq (.ops o3_15) (.seq (.ops o3_17) (.seq (.seq (.ops o3_20) (.block 0 (.clear zl2 (.loop h)))) (.clear zl10 i)))))))⟩ [.agg #[.int .i64 a, .int .i64 b], .int .i64 m, .int .i64 n, .slice j d e, .int .u8 o, .slice p f g] B = (Option.bind (intOf? .i64 (AMem.ld (B ++ [AObj.cells [.int .i64 a, .int .i64 b] ⟨false, 0⟩]) B.length 0)) fun t => (Option.bind (intOf? .i64 (AMem.ld (B ++ [AObj.cells [.int .i64 a, .int .i64 b] ⟨false, 0⟩]) B.length 1)) fun u => (Option.bind (A.call 4 [.agg #[.int .i64 t, .int .i64 u]] []) fun v => (Option.bind (boolOf? (some v.1)) fun w => (if w = true then (Option.bind (intOf? .i64 (AMem.ld (B ++ [AObj.cells [.int .i64 a, .int .i64 b] ⟨false, 0⟩]) B.length 0)) fun x => (if (decide (x > 12)) = true then c A m n j d e o p f g B.length true (B ++ [AObj.cells [.int .i64 a, .int .i64 b] ⟨false, 0⟩]) else (Option.bind (intOf? .i64 (AMem.ld (B ++ [AObj.cells [.int .i64 a, .int .i64 b] ⟨false, 0⟩]) B.length 1)) fun y => (if (decide (y > 4)) = true then c A m n j d e o p f g B.length true (B ++ [AObj.cells [.int .i64 a, .int .i64 b] ⟨false, 0⟩]) else (Option.bind (A.call 5 [.slice j d e, .int .i64 12, .int .i64 24] (B ++ [AObj.cells [.int .i64 a, .int .i64 b] ⟨false, 0⟩])) fun q => (Option.bind (boolOf? (some q.1)) fun z => (if (!z) = true then c A m n j d e o p f g B.length true q.2 else c A m n j d e o p f g B.length (decide ((Int.ofNat f) > 200)) q.2))))))) else (Option.bind (A.call 5 [.slice j d e, .int .i64 12, .int .i64 24] (B ++ [AObj.cells [.int .i64 a, .int .i64 b] ⟨false, 0⟩])) fun r => (Option.bind (boolOf? (some r.1)) fun s => (if (!s) = true then c A m n j d e o p f g B.length true r.2 else c A m n j d e o p f g B.length (decide ((Int.ofNat f) > 200)) r.2)))))))) := by
  subst l; kernel_rfl
abbrev E3 (L : Rec) (x0_0 x0_1 x1 x2 : Int) (x3 : Option Addr) (x3n x3c : Nat) (x4 : Int) (x5 : Option Addr) (x5n x5c : Nat) (M : AMem) := (Eq.refl (enterF L a3 [.agg #[.int .i64 x0_0, .int .i64 x0_1], .int .i64 x1, .int .i64 x2, .slice x3 x3n x3c, .int .u8 x4, .slice x5 x5n x5c] M)).trans (QE3 L _ _ _ P3_5 (hE _) x0_0 x0_1 x1 x2 x3 x3n x3c x4 x5 x5n x5c M)
section
variable {N : Nat} {P : WP} {tp : Option Addr} {tr : List Row} {mb ma mr : Nat} {p : Option Addr} {c ao rb n : Nat} {ρ ρ' : Cl} {M M' : AMem} {l : List Wk} {L : List Int} {st wi wi' : Nat}
theorem AllS.ptr (h : AllS N P tp tr mb ma mr p c ao rb n ρ M l L st wi wi') {k : Nat} {x : Wk} (hx : l[k]? = some x) : M.ld ao (k * 1) = some (pt x.w) := by
  have := flat_get (enc := fun x : Wk => [pt x.w]) (k := 1) (fun _ => rfl) l k 0 x hx (by omega)
  rw [Nat.add_zero] at this
  rw [h.ar.ld, this]; rfl
theorem AllS.isd (h : AllS N P tp tr mb ma mr p c ao rb n ρ M l L st wi wi') {k : Nat} {x : Wk} (hx : l[k]? = some x) :
    IsD ρ (2 * k + 1 + 2) N P tp M rb (k * 31) ((l.take k).flatMap (encX P tp)) ((l.drop (k + 1)).flatMap (encX P tp)) x.D x.σ :=
  ⟨mid_of (encX_length P tp) h.rw hx, h.cr, h.ds k x hx⟩
theorem chk86 {w : Option Addr} {wn i k : Nat} {ac rc : Nat} {y : Wk} (h : AllS N P tp tr mb ma mr p c ao rb n ρ M l L st wi wi') (hy : l[k]? = some y) (hi : i < 1000000) :
    ∃ M', P3_73 LL w wn 0 mr (some ⟨mb, 0, none⟩) (some ⟨ao, 0, none⟩) l.length ac (some ⟨rb, 0, none⟩) l.length rc (i : Int) (k : Int) false M =
      P3_57 LL w wn 0 mr (some ⟨mb, 0, none⟩) (some ⟨ao, 0, none⟩) l.length ac (some ⟨rb, 0, none⟩) l.length rc ((i + 1 : Nat) : Int) M' ∧ Same M M' [] := by
  have hkl := (ges.1 hy).1
  have hg : (0 : Int) ≤ (k : Int) ∧ (k : Int) < Int.ofNat l.length := by rw [ofN]; omega
  have hw : IntKind.wrap .i64 ((i : Int) + 1) = ((i + 1 : Nat) : Int) := by rw [w64 (by omega)]; rfl
  have hd := h.isd hy
  have hp := h.ps k y hy
  have hok := h.ok y (List.mem_of_getElem? hy)
  have hen := hok.en
  have l12 := hd.at.2.2.2.1
  have lp := h.ptr hy
  rw [P3_73_eq, ifF]
  simp only [↓if_pos hg, Nat.zero_add, Int.toNat_natCast]
  rw [bLB l12]
  obtain ⟨M', o, oc, e1, t1, r1⟩ := pflush hp (by omega)
  cases hh : y.σ.has with
  | true =>
    obtain ⟨f1, f2, f3, f4, f5⟩ := hd.rs.fl hh
    have l14 : M.ld rb (k * 31 + 14) = some (.slice y.D.ep y.σ.en.length y.D.ec) := by
      have : M.ld rb (k * 31 + 14) = some y.D.js.b := hd.hd.ld 14 rfl
      rw [this, f1]; rfl
    rw [hh] at e1 r1
    simp only [if_true] at e1 r1
    rw [ifT, bLS l14, P3_86_eq]
    simp only [↓if_pos hg, Nat.zero_add, Int.toNat_natCast]
    rw [bLP lp, bX e1, bS, bX (ents_spec (c := oc) (d := y.D.ec) r1 (f4.same t1 (by simp)) (by omega)), bB, ifNT, P3_93_eq, hw]
    exact ⟨M', rfl, t1⟩
  | false =>
    rw [hh] at e1 r1
    simp only [Bool.false_eq_true, if_false] at e1 r1
    have r2 : RdL M' encE none ([] : List En).length [] := ⟨rfl, fun h => by simp at h⟩
    rw [ifF, P3_86_eq]
    simp only [↓if_pos hg, Nat.zero_add, Int.toNat_natCast]
    have hes : LL.call 19 [.slice o 0 oc, .slice none 0 0] M' = some (.bool true, M') := ents_spec (l := []) r1 r2 (by simp)
    rw [bLP lp, bX e1, bS, bX hes, bB, ifNT, P3_93_eq, hw]
    exact ⟨M', rfl, t1⟩
theorem chk70 {w : Option Addr} {wn i k x22 x23 : Nat} {ac rc : Nat} {y : Wk} {e : Ev} (h : AllS N P tp tr mb ma mr p c ao rb n ρ M l L st wi wi') (hy : l[k]? = some y) (hi : i < 1000000) (g22 : Cells M x22 (encV e)) (g23 : Cells M x23 (encV e)) :
    ∃ M', P3_70 LL w wn 0 mr (some ⟨mb, 0, none⟩) (some ⟨ao, 0, none⟩) l.length ac (some ⟨rb, 0, none⟩) l.length rc (i : Int) (k : Int) x22 x23 M =
      P3_57 LL w wn 0 mr (some ⟨mb, 0, none⟩) (some ⟨ao, 0, none⟩) l.length ac (some ⟨rb, 0, none⟩) l.length rc ((i + 1 : Nat) : Int) M' ∧ Same M M' [] := by
  have hkl := (ges.1 hy).1
  have hg : (0 : Int) ≤ (k : Int) ∧ (k : Int) < Int.ofNat l.length := by rw [ofN]; omega
  have hd := h.isd hy
  have hp := h.ps k y hy
  have hok := h.ok y (List.mem_of_getElem? hy)
  have l30 := hd.at.2.2.2.2.2
  have lp := h.ptr hy
  have a0 : M.ld x22 0 = some (.int .i64 e.kind) := g22.ld 0
  have a1 : M.ld x22 1 = some (.int .i64 e.part) := g22.ld 1
  have a2 : M.ld x22 2 = some (.int .i64 e.stripe) := g22.ld 2
  have a3 : M.ld x22 3 = some (.bool e.begun) := g22.ld 3
  have a4 : M.ld x22 4 = some (.bool e.ended) := g22.ld 4
  have b0 : M.ld x23 0 = some (.int .i64 e.kind) := g23.ld 0
  have b1 : M.ld x23 1 = some (.int .i64 e.part) := g23.ld 1
  have b2 : M.ld x23 2 = some (.int .i64 e.stripe) := g23.ld 2
  have b3 : M.ld x23 3 = some (.bool e.begun) := g23.ld 3
  have b4 : M.ld x23 4 = some (.bool e.ended) := g23.ld 4
  have hne : ∀ z : Int, (z != z) = false := fun z => by simp
  have hnb : ∀ z : Bool, (!(z == z)) = false := fun z => by cases z <;> rfl
  have hck : chkOk [(55, 50)] [(55, rb)] [(50, (M, M))] = true := by simp [chkOk, List.lookup]
  rw [P3_70_eq, bLI a0, bLI b0, hne, ifF, bLI a1, bLI b1, hne, ifF, bLI a2, bLI b2, hne, ifF, bLB a3, bLB b3, hnb, ifF, bLB a4, bLB b4, hnb, ifF]
  simp only [↓if_pos hg, Nat.zero_add, Int.toNat_natCast]
  rw [bLP lp, bX (pdone hp ⟨hok.ks.1, hok.pl.1⟩), bB, bX (ddone hd), bB, hnb, ifF]
  simp only [↓if_pos hg, Nat.zero_add, Int.toNat_natCast]
  rw [bLP lp, bX (plost hp), bI, bLI l30]
  simp only [hck, if_true, hne]
  exact chk86 h hy hi
theorem plays_loop (hG : GC N P tr mb ma mr) {w : Option Addr} {ord : List Int} {ac rc m : Nat} (hm : 0 < m ∧ m ≤ 4) (hord : ∀ x ∈ ord, 0 ≤ x ∧ x < 256) (hol : ord.length ≤ 1000) (hw : 0 < ord.length → ∀ b ∈ blk w, b < N) :
    ∀ (d i : Nat) (ρ : Cl) (M : AMem) (l : List Wk) (L : List Int) (st wi wi' : Nat), i + d = ord.length → l.length = m → RdI M .u8 w ord.length ord → AllS N P tp tr mb ma mr p c ao rb i ρ M l L st wi wi' →
    ∃ ρ' M' l' L' st' wi2 wi2', P3_57 LL w ord.length 0 mr (some ⟨mb, 0, none⟩) (some ⟨ao, 0, none⟩) m ac (some ⟨rb, 0, none⟩) m rc (i : Int) M = P3_94 LL mr (some ⟨mb, 0, none⟩) (some ⟨ao, 0, none⟩) m ac M' ∧
      AllS N P tp tr mb ma mr p c ao rb ord.length ρ' M' l' L' st' wi2 wi2' ∧ l'.length = m := by
  intro d
  induction d with
  | zero =>
    intro i ρ M l L st wi wi' hi hl hr h
    rw [P3_57_eq LL L_loop, ifDn (by rw [ofN]; omega)]
    obtain rfl : i = ord.length := by omega
    exact ⟨ρ, M, l, L, st, wi, wi', rfl, h, hl⟩
  | succ d ih =>
    intro i ρ M l L st wi wi' hi hl hr h
    subst hl
    have hil : i < ord.length := by omega
    obtain ⟨v, hv⟩ : ∃ v, ord[i]? = some v := ⟨_, gee hil⟩
    have hvb := hord v (List.mem_of_getElem? hv)
    obtain ⟨wb, ew, hwb⟩ := hr.2 (by omega)
    have lv : M.ld wb (i * 1) = some (.int .u8 v) := by rw [hwb.ld, Nat.mul_one, ints_get, hv]; rfl
    have hg : (0 : Int) ≤ (i : Int) ∧ (i : Int) < Int.ofNat ord.length := by rw [ofN]; omega
    have e1 : IntKind.wrap .i64 v = v := w64 (by omega)
    obtain ⟨k, hk⟩ : ∃ k : Nat, Int.tmod v (Int.ofNat l.length) = (k : Int) := ⟨(Int.tmod v (Int.ofNat l.length)).toNat, by
      have := Int.tmod_nonneg (a := v) (Int.ofNat l.length) hvb.1; omega⟩
    have hkl : k < l.length := by
      have := Int.tmod_lt_of_pos v (b := Int.ofNat l.length) (by rw [ofN]; omega)
      rw [hk, ofN] at this; omega
    obtain ⟨x, hx⟩ : ∃ x, l[k]? = some x := ⟨_, gee hkl⟩
    have hN := h.lt hx
    have hgk : (0 : Int) ≤ (k : Int) ∧ (k : Int) < Int.ofNat l.length := by rw [ofN]; omega
    have hz : ¬ (Int.ofNat l.length) = 0 := by rw [ofN]; omega
    rw [P3_57_eq LL L_loop, ifD hg.2, ew]
    simp only [↓if_pos hg, Nat.zero_add, Int.toNat_natCast]
    rw [bLI lv, if_neg hz]
    simp only [e1, hk, ↓if_pos hgk, Int.toNat_natCast]
    have s0 := same_app M [AObj.cells ev0 ⟨false, 0⟩]
    have g0 := cells_new M ev0 0
    generalize M ++ [AObj.cells ev0 ⟨false, 0⟩] = M0 at s0 g0 ⊢
    have s1 := same_app M0 [AObj.cells ev0 ⟨false, 0⟩]
    have g1 := cells_new M0 ev0 0
    generalize M0 ++ [AObj.cells ev0 ⟨false, 0⟩] = M00 at s1 g1 ⊢
    obtain ⟨ρ0, e0, c0⟩ := tmp_newt (ρ := ρ) 7 s0
    obtain ⟨ρ1, e01, c1⟩ := tmp_newt (ρ := ρ0) 7 s1
    have c0' : ρ1 M.length = (1, 7) := by rw [e01.col _ g0.lt]; exact c0
    have g0' := g0.same s1 (by simp)
    have hA := (h.ext e0 (fun _ h => h.elim) hN).ext e01 (fun _ h => h.elim) (Nat.le_trans hN s0.le)
    obtain ⟨M1, M2, ρ2, ρ3, y, wi2, wi2', q1, q2, q3, q4, q5, q6, q7⟩ := both hG hA (by omega) hx
    have lp := hA.ptr hx
    have nT : ¬ OursT (2 * k + 2) (1, 7) := fun hh => by
      rcases hh with hh | hh | hh
      · simp at hh
      · cases hh
      · cases hh
    have nD : ¬ OursD (2 * k + 1 + 2) 9 (1, 7) := fun hh => by
      rcases hh with hh | hh | hh | hh
      · simp at hh
      · cases hh
      · cases hh
      · have := hh.2.1; simp at this
    obtain ⟨a1, a2⟩ := tmp_keept g0' c0' q6 nT
    obtain ⟨b1, b2⟩ := tmp_keept g1 c1 q6 nT
    obtain ⟨a3, a4⟩ := tmp_keept a1 a2 q7 nD
    obtain ⟨b3, b4⟩ := tmp_keept b1 b2 q7 nD
    obtain ⟨S1, t1, hS1⟩ := q6.same
    obtain ⟨S2, t2, hS2⟩ := q7.same
    have hck : chkOk [(10, 5), (10, 9), (11, 5), (11, 9)] [(11, M0.length), (10, M.length)] [(9, (M1, M2)), (5, (M00, M1))] = true := by
      have v1 := ver_same t1 g0'.lt (hS1 _ g0'.lt (by rw [c0']; exact nT))
      have v2 := ver_same t1 g1.lt (hS1 _ g1.lt (by rw [c1]; exact nT))
      have v3 := ver_same t2 a1.lt (hS2 _ a1.lt (by rw [a2]; exact nD))
      have v4 := ver_same t2 b1.lt (hS2 _ b1.lt (by rw [b2]; exact nD))
      simp [chkOk, List.lookup, v1, v2, v3, v4]
    rw [bLP lp, bX q1]
    generalize hev : (stepW P L x.σ).ev = ev at q1 q2 ⊢
    obtain ⟨ea, eb, ec, ed, ee⟩ := ev
    have hag : Value.agg (encV ⟨ea, eb, ec, ed, ee⟩).toArray = .agg #[.int .i64 ea, .int .i64 eb, .int .i64 ec, .bool ed, .bool ee] := rfl
    rw [hag] at q2
    simp only [hag]
    rw [bA5, bI0, bI1, bI2, bB3, bB4, bX q2, bA5, bI0, bI1, bI2, bB3, bB4]
    obtain ⟨M3, w1, w2, _, w4, _⟩ := ev_tell a3 rfl ea eb ec ed ee
    have b5 := b3.same w2 (by simp; have := g0.lt; omega)
    obtain ⟨M4, u1, u2, _, u4, _⟩ := ev_tell b5 rfl ea eb ec ed ee
    rw [bX w1, bX u1]
    simp only [hck, if_true]
    have x3 : Ext (fun c => c = (1, 7)) ρ3 M2 ρ3 M3 := Ext.of w2 (fun z hz _ => by simp only [List.mem_singleton] at hz; rw [hz]; exact a4)
    have x4 : Ext (fun c => c = (1, 7)) ρ3 M3 ρ3 M4 := Ext.of u2 (fun z hz _ => by simp only [List.mem_singleton] at hz; rw [hz]; exact b4)
    have le1 := t1.le
    have le2 := t2.le
    have hNM : N ≤ M2.length := by have := s0.le; have := s1.le; omega
    have hA4 := q3.ext (x3.trans x4) (fun c hc => by rw [hc]; exact ⟨rfl, by decide⟩) hNM
    have hy : (l.set k y)[k]? = some y := List.getElem?_set_self hkl
    have w5 := w4.same u2 (by simp; have := g0.lt; omega)
    obtain ⟨M5, r1, r2⟩ := chk70 (e := ⟨ea, eb, ec, ed, ee⟩) (w := some ⟨wb, 0, none⟩) (wn := ord.length) (i := i) (ac := ac) (rc := rc) hA4 hy (by omega) w5 u4
    rw [List.length_set] at r1
    rw [r1]
    have x5 : Ext (fun _ => False) ρ3 M4 ρ3 M5 := Ext.of r2 (fun z hz => by simp at hz)
    have hA5 := hA4.ext x5 (fun _ h => h.elim) (Nat.le_trans hNM (Nat.le_trans w2.le u2.le))
    have hr5 : RdI M5 .u8 w ord.length ord := by
      refine ⟨rfl, fun h0 => ⟨wb, ew, ?_⟩⟩
      have hwN : wb < N := hw (by omega) wb (by rw [ew]; simp)
      have hA := (e0.mono (K' := fun c => c ≠ (0, 0)) (fun _ h => h.elim)).trans ((e01.mono (fun _ h => h.elim)).trans ((q6.mono (fun c hc he => by rw [he] at hc; rcases hc with hh | hh | hh <;> first | (simp at hh; done) | cases hh)).trans (q7.mono (fun c hc he => by
        rw [he] at hc
        rcases hc with hh | hh | hh | hh
        · simp at hh
        · cases hh
        · cases hh
        · have := hh.1; simp at this))))
      have hB := hA.trans (((x3.trans x4).mono (fun c hc he => by rw [he] at hc; cases hc)).trans (x5.mono (fun _ h => h.elim)))
      exact rd_ext hwb hB (by rw [h.c0 _ hwN]; simp)
    obtain ⟨ρ', M', l', L', st', wj, wj', k1, k2, k3⟩ := ih (i + 1) ρ3 M5 (l.set k y) _ _ _ _ (by omega) (by simp) hr5 hA5
    refine ⟨ρ', M', l', L', st', wj, wj', ?_, k2, k3⟩
    rw [← ew]
    exact k1
end
def isT : Res → Bool
  | some (.bool b, _) => b
  | _ => false
theorem isT_some : ∀ {r : Res}, isT r = true → ∃ M, r = some (.bool true, M)
  | some (.bool b, M), h => ⟨M, by cases b <;> simp [isT] at h ⊢⟩
  | some (.int _ _, _), h => by simp [isT] at h
  | none, h => by simp [isT] at h
theorem closed {f : FuncId} {args : List Value} {A : AMem} (n : Nat) (h : isT ((run env n).call f args A) = true) : ∃ M, LL.call f args A = some (.bool true, M) := by
  obtain ⟨M, e⟩ := isT_some h
  refine ⟨M, ?_⟩
  rw [LL_lim]
  exact lim_call_iff.2 ⟨n, e⟩
theorem awake36 : ∃ M, LL.call 6 [] [] = some (.bool true, M) := closed 60 (by kernel_rfl)
abbrev zEv : Value := .agg #[.int .i64 0, .int .i64 0, .int .i64 0, .bool false, .bool false]
def zW : List Value := [.int .i64 0, .int .i64 0, .int .i64 0, .slice none 0 0, .int .i64 0, .int .i64 0, .slice none 0 0, .pointer none, .slice none 0 0, .pointer none, .int .i64 0, .slice none 0 0, .pointer none, .int .i64 0]
theorem given_nil (M : AMem) : LL.call 32 [.pointer none] M = some (.bool false, M) := by
  rw [L_call32, E32]; rfl
theorem given_zero {M : AMem} {z : Nat} (h : Cells M z zW) : LL.call 32 [pt z] M = some (.bool false, M) := by
  rw [L_call32, E32]
  have l7 : M.ld z 7 = some (.pointer none) := h.ld 7
  simp only [Option.isNone_some, Bool.not_false, if_true, Nat.zero_add]
  rw [bLP l7]; rfl
theorem done_nilW (M : AMem) : LL.call 13 [.pointer none] M = some (.bool true, M) := by
  rw [L_call13, E13, bX (given_nil M), bB, ifNF]
theorem done_zero {M : AMem} {z : Nat} (h : Cells M z zW) : LL.call 13 [pt z] M = some (.bool true, M) := by
  rw [L_call13, E13, bX (given_zero h), bB, ifNF]
theorem step_ng {M : AMem} {x : Option Addr} {b : Option Addr} (h : ∀ M0, Same M M0 [] → LL.call 32 [.pointer x] M0 = some (.bool false, M0)) : ∃ M', LL.call 15 [.pointer x, .pointer b] M = some (zEv, M') ∧ Same M M' [] := by
  rw [L_call15, E15]
  have s0 := same_app M [AObj.cells ev0 ⟨false, 0⟩]
  have g0 := cells_new M ev0 0
  generalize M ++ [AObj.cells ev0 ⟨false, 0⟩] = M0 at s0 g0 ⊢
  obtain ⟨M1, w1, w2, _, _, z0, z1, z2, z3, z4⟩ := ev_tell g0 rfl 0 0 0 false false
  rw [bX (h M0 s0), bB, ifNF, bX w1, bLI z0, bLI z1, bLI z2, bLB z3, bLB z4]
  exact ⟨M1, rfl, (s0.trans w2).mono' (fun b hb hl => by simp at hb; omega)⟩
theorem step_off {ρ : Cl} {k N : Nat} {P : WP} {tp : Option Addr} {M : AMem} {w : Nat} {B : PB} {σ : WS} (h : IsP ρ k N P tp M w B σ) (hr : Rt P.p P.s) {b a : Nat} {st wi : Nat} (hm : IsMem M b a [] st wi) : ∃ M', LL.call 15 [pt w, pt b] M = some (zEv, M') ∧ Same M M' [] := by
  rw [L_call15, E15]
  have s0 := same_app M [AObj.cells ev0 ⟨false, 0⟩]
  have g0 := cells_new M ev0 0
  generalize M ++ [AObj.cells ev0 ⟨false, 0⟩] = M0 at s0 g0 ⊢
  have h0 := h.st s0
  have m0 := hm.same s0 (by simp) (by simp)
  obtain ⟨M1, w1, w2, _, _, z0, z1, z2, z3, z4⟩ := ev_tell g0 rfl 0 0 0 false false
  obtain ⟨⟨l0, l1, _⟩, _⟩ := h0.at
  obtain ⟨_, ks⟩ := size_spec P.p P.s
  rw [if_pos hr] at ks
  have hck : ∀ x, chkOk [(9, 5)] [(9, x)] [(5, (M0, M0))] = true := fun x => by simp [chkOk, List.lookup]
  have hb : ((([] : List Int).length : Int) != 1 + 2 * P.s + 3 * P.p) = true := by
    obtain ⟨r1, r2, r3, r4⟩ := hr
    simp only [List.length_nil, bne_iff_ne, ne_eq]
    omega
  rw [bX (pgiven h0), bB, ifNT, bX (len_spec m0), bI]
  simp only [Nat.zero_add, hck, if_true]
  rw [bLI l0, bLI l1, bX ks, bI, hb, ifT, bX w1, bLI z0, bLI z1, bLI z2, bLB z3, bLB z4]
  exact ⟨M1, rfl, (s0.trans w2).mono' (fun b hb hl => by simp at hb; omega)⟩
theorem flush_nil (M : AMem) : LL.call 20 [.pointer none] M = some (.slice none 0 0, M) := by
  rw [L_call20, E20]; rfl
theorem lost_nilW (M : AMem) : LL.call 18 [.pointer none] M = some (.int .i64 0, M) := by
  rw [L_call18, E18]; rfl
theorem flush_zero {M : AMem} {z : Nat} (h : Cells M z zW) : LL.call 20 [pt z] M = some (.slice none 0 0, M) := by
  rw [L_call20, E20]
  have l11 : M.ld z 11 = some (.slice none 0 0) := h.ld 11
  simp only [Option.isNone_some, Bool.false_eq_true, if_false, Nat.zero_add]
  rw [bLS l11, L_call47, E47]
  rfl
theorem lost_zero {M : AMem} {z : Nat} (h : Cells M z zW) : LL.call 18 [pt z] M = some (.int .i64 0, M) := by
  rw [L_call18, E18]
  have l13 : M.ld z 13 = some (.int .i64 0) := h.ld 13
  simp only [Option.isNone_some, Bool.false_eq_true, if_false, Nat.zero_add]
  rw [bLI l13]
section
variable {N : Nat} {P : WP} {tp : Option Addr} {tr : List Row} {mb ma mr : Nat} {p : Option Addr} {c ao rb n : Nat} {ρ ρ' : Cl} {M M' : AMem} {l : List Wk} {L : List Int} {st wi wi' : Nat}
theorem AllS.s (h : AllS N P tp tr mb ma mr p c ao rb n ρ M l L st wi wi') (t : Same M M' []) (hN : N ≤ M.length) : AllS N P tp tr mb ma mr p c ao rb n ρ M' l L st wi wi' :=
  h.ext (K := fun _ => False) (Ext.of t (fun z hz => by simp at hz)) (fun _ h => h.elim) hN
theorem end101 (h : AllS N P tp tr mb ma mr p c ao rb n ρ M l L st wi wi') (hL : L.length ≤ 1000) : ∃ M', P3_101 LL mr (some ⟨mb, 0, none⟩) false M = some (.bool true, M') := by
  obtain ⟨_, aw⟩ := awake36
  have hsub : sub L 0 1000 = L := by
    unfold sub
    rw [if_neg (by omega)]
    simp only [Int.toNat_zero, List.drop_zero]
    exact List.take_of_length_le (by omega)
  obtain ⟨M1, q, qc, e1, e2, t1, f1⟩ := cells_spec h.mm (by omega) 0 1000
  rw [hsub] at e1 e2
  have m1 := h.mm.same t1 (by simp) (by simp)
  have r1 := h.rr.same t1 (by simp) (by simp)
  have l0 : M1.ld mr 0 = some (.slice p L.length c) := r1.hd.ld 0
  have l1 : M1.ld mr 1 = some (.int .i64 st) := r1.hd.ld 1
  have ha : RdI M1 .u64 q L.length L := ⟨rfl, fun h0 => let ⟨a, e, k⟩ := e2.pos h0; ⟨a, e, k.rd⟩⟩
  have hb : RdI M1 .u64 p L.length L := ⟨rfl, fun h0 => let ⟨a, e, k⟩ := r1.cs.pos h0; ⟨a, e, k.rd⟩⟩
  have hck : chkOk [(3, 1), (9, 7)] [(9, mr), (3, mr)] [(7, (M1, M1)), (1, (M, M1))] = true := by
    simp [chkOk, List.lookup, ver_same t1 h.rr.hd.lt (by simp)]
  rw [P3_101_eq, ifF, bX e1, bS, bLS l0, bX (sm_spec ha hb (by omega)), bB, ifT, bX (steps_spec m1), bI, bLI l1]
  rw [show ((st : Int) == (st : Int)) = true by simp, ifT, bX aw, bB]
  simp only [hck, if_true]
  exact ⟨M1, rfl⟩
theorem end94 (hG : GC N P tr mb ma mr) {ac : Nat} (h : AllS N P tp tr mb ma mr p c ao rb n ρ M l L st wi wi') (hl : 0 < l.length) (hL : L.length ≤ 1000) : ∃ M', P3_94 LL mr (some ⟨mb, 0, none⟩) (some ⟨ao, 0, none⟩) l.length ac M = some (.bool true, M') := by
  obtain ⟨x, hx⟩ : ∃ x, l[0]? = some x := ⟨_, gee hl⟩
  have hN := h.lt hx
  rw [P3_94_eq]
  have s0 := same_app M [AObj.cells zW ⟨false, 0⟩]
  have g0 := cells_new M zW 0
  unfold zW at s0 g0
  generalize M ++ [AObj.cells [.int .i64 0, .int .i64 0, .int .i64 0, .slice none 0 0, .int .i64 0, .int .i64 0, .slice none 0 0, .pointer none, .slice none 0 0, .pointer none, .int .i64 0, .slice none 0 0, .pointer none, .int .i64 0] ⟨false, 0⟩] = M0 at s0 g0 ⊢
  have g0' : Cells M0 M.length zW := g0
  obtain ⟨M1, e1, t1⟩ := step_ng (M := M0) (x := none) (b := some ⟨mb, 0, none⟩) (fun M _ => given_nil M)
  have g1 := g0'.same t1 (by simp)
  obtain ⟨M2, e2, t2⟩ := step_ng (M := M1) (x := some ⟨M.length, 0, none⟩) (b := some ⟨mb, 0, none⟩) (fun M' t => given_zero (g1.same t (by simp)))
  have g2 := g1.same t2 (by simp)
  have hz1 : (!((0 : Int) == 0 && ((0 : Int) == 0 && ((0 : Int) == 0 && ((false == false) && (false == false)))))) = false := by decide
  have hz2 : (IntKind.wrap .i64 ((IntKind.wrap .i64 ((IntKind.wrap .i64 ((Int.ofNat 0) + (Int.ofNat 0))) + 0)) + 0) != 0) = false := by decide
  rw [bX (done_nilW M0), bB, ifNT, bX (done_zero g0'), bB, ifNT, bX e1, bA5, bI0, bI1, bI2, bB3, bB4, hz1, ifF, bX e2, bA5, bI0, bI1, bI2, bB3, bB4, hz1, ifF, bX (flush_nil M2), bS, bX (flush_zero g2), bS, bX (lost_nilW M2), bI, bX (lost_zero g2), bI]
  simp only [hz2, Bool.false_eq_true, if_false]
  have hg : (0 : Int) ≤ 0 ∧ (0 : Int) < Int.ofNat l.length := by rw [ofN]; omega
  simp only [↓if_pos hg]
  have t02 : Same M M2 [] := ((s0.trans t1).trans t2).mono (by simp)
  have h2 := h.s t02 hN
  have lp := h2.ptr hx
  rw [Nat.zero_mul] at lp
  obtain ⟨M3, b, a, n1, n2, t3, _⟩ := new_spec 0 M2 (by omega)
  have h3 := h2.s t3 (Nat.le_trans hN t02.le)
  obtain ⟨M4, e4, t4⟩ := step_off (h3.ps 0 x hx) hG.ok.rt n2
  have hck : chkOk [(41, 42)] [(41, ao)] [(42, (M2, M3))] = true := by
    simp [chkOk, List.lookup, ver_same t3 h2.ar.lt (by simp)]
  rw [bLP lp, bX n1, bP, bX e4, bA5, bI0, bI1, bI2, bB3, bB4, hz1]
  simp only [hck, if_true]
  exact end101 (h3.s t4 (Nat.le_trans hN (Nat.le_trans t02.le t3.le))) hL
end
theorem lay36_spec (p s : Int) : ∃ M, LL.call 11 [lay p s] [] = some (lay p s, M) := by
  rw [L_call11, E11]
  exact ⟨_, rfl⟩
theorem new_ok {P : WP} (hP : WPok P) : WOk P 0 .new :=
  ⟨⟨Nat.zero_le _, fun x hx => (by cases hx)⟩, ⟨by have := hP.rm.1; show (0 : Int) ≤ P.room; omega, fun x hx => (by cases hx)⟩, ⟨Nat.zero_le _, fun x hx => (by cases hx)⟩, ⟨Int.le_refl _, hP.cf.a0⟩, Nat.le_refl _, fun h => (by cases h), Nat.zero_le _, fun _ => ⟨Nat.le_refl _, Nat.zero_lt_two, fun h => (by cases h), by simp [WS.new, Bt.CS.init]⟩⟩
structure MkB (N x6 : Nat) (P : WP) (tp : Option Addr) (tr : List Row) (mb ma mr : Nat) (p : Option Addr) (c : Nat) (ρ : Cl) (M : AMem) (l : List Wk) (L : List Int) : Prop where
  ps : ∀ i x, l[i]? = some x → IsP ρ (2 * i + 2) N P tp M x.w x.B x.σ
  ds : ∀ i x, l[i]? = some x → RsD ρ (2 * i + 1 + 2) N P M x.D x.σ
  nw : ∀ x ∈ l, x.σ = .new
  tb : TbOk N M tp tr
  mm : IsMem M mb ma L 0 0
  hc : ρ mb = (1, 0) ∧ ρ ma = (1, 0)
  rr : IsRef M mr p c L 0 0
  hr : ρ mr = (1, 2) ∧ Col M ρ (blk p) (1, 2)
  ly : Rd M x6 [.int .i64 P.p, .int .i64 P.s]
  c6 : ρ x6 = (1, 6)
  lt : N ≤ M.length
  c0 : ∀ z, z < N → ρ z = (0, 0)
section
variable {N x6 : Nat} {P : WP} {tp : Option Addr} {tr : List Row} {mb ma mr : Nat} {p : Option Addr} {c : Nat} {ρ ρ' : Cl} {M M' : AMem} {l : List Wk} {L : List Int}
theorem MkB.ext {K : Nat × Nat → Prop} (h : MkB N x6 P tp tr mb ma mr p c ρ M l L) (e : Ext K ρ M ρ' M') (hK : ∀ c, K c → c = (1, 3) ∨ c = (1, 1)) : MkB N x6 P tp tr mb ma mr p c ρ' M' l L := by
  obtain ⟨S, t, hS⟩ := e.same
  have n1 : ∀ r, r ≠ 3 → r ≠ 1 → ¬ K (1, r) := fun r h3 h1 h => by
    rcases hK _ h with h | h
    · exact h3 (congrArg Prod.snd h)
    · exact h1 (congrArg Prod.snd h)
  have nk : ∀ i r, ¬ K (i + 2, r) := fun i r h => by
    rcases hK _ h with h | h <;> (have := congrArg Prod.fst h; simp at this)
  have n0 : ¬ K (0, 0) := fun h => by
    rcases hK _ h with h | h <;> cases h
  refine ⟨fun i x hx => (h.ps i x hx).ext e (nk _) n0, fun i x hx => (h.ds i x hx).ext e (fun r _ => nk _ r) n0, h.nw, h.tb.ext e n0 h.c0,
    h.mm.same t (hS _ h.mm.hd.lt (by rw [h.hc.1]; exact n1 0 (by decide) (by decide))) (hS _ h.mm.cs.lt (by rw [h.hc.2]; exact n1 0 (by decide) (by decide))),
    ⟨by rw [e.col _ h.mm.hd.lt]; exact h.hc.1, by rw [e.col _ h.mm.cs.lt]; exact h.hc.2⟩, ref_ext h.rr h.hr e (n1 2 (by decide) (by decide)), refcol h.rr h.hr e,
    rd_ext h.ly e (by rw [h.c6]; exact n1 6 (by decide) (by decide)), by rw [e.col _ h.ly.lt]; exact h.c6, Nat.le_trans h.lt e.le, fun z hz => by rw [e.col z (Nat.lt_of_lt_of_le hz h.lt)]; exact h.c0 z hz⟩
theorem make_loop (hP : P.tb = tr.map Row.l) (hR : WRt P) (hall : ∀ r ∈ tr, r.l.length ≤ 1000000) (htl : tr.length ≤ 1000000000) {w : Option Addr} {wn : Nat} {x4 : Int} {m : Nat} (hm : IntKind.wrap .i64 (1 + (Int.tmod (IntKind.wrap .i64 x4) 4)) = (m : Int)) (hm4 : m ≤ 4) :
    ∀ (d i : Nat) (ρ : Cl) (M : AMem) (l : List Wk) (ap : Option Addr) (ac : Nat) (bq : Option Addr) (bc : Nat), i + d = m → l.length = i → MkB N x6 P tp tr mb ma mr p c ρ M l L → Slc M 1 ap l.length ac (l.flatMap fun x => [pt x.w]) → Col M ρ (blk ap) (1, 3) → Slc M 31 bq l.length bc (l.flatMap (encX P tp)) → Col M ρ (blk bq) (1, 1) →
    ∃ ρ' M' l' ap' ac' bq' bc', P3_22 LL P.size P.room tp tr.length 0 x4 w wn 0 x6 mr (some ⟨mb, 0, none⟩) ap i ac bq i bc (i : Int) M = P3_53 LL w wn 0 mr (some ⟨mb, 0, none⟩) ap' m ac' bq' m bc' M' ∧
      MkB N x6 P tp tr mb ma mr p c ρ' M' l' L ∧ Slc M' 1 ap' l'.length ac' (l'.flatMap fun x => [pt x.w]) ∧ Col M' ρ' (blk ap') (1, 3) ∧ Slc M' 31 bq' l'.length bc' (l'.flatMap (encX P tp)) ∧ Col M' ρ' (blk bq') (1, 1) ∧ l'.length = m ∧ Ext (fun c => c = (1, 3) ∨ c = (1, 1)) ρ M ρ' M' := by
  intro d
  induction d with
  | zero =>
    intro i ρ M l ap ac bq bc hi hl h ha ca hb cb
    obtain rfl : i = m := by omega
    rw [P3_22_eq LL L_loop, P3_26_eq, hm, decide_eq_false (by omega), ifF]
    exact ⟨ρ, M, l, ap, ac, bq, bc, rfl, h, ha, ca, hb, cb, hl, .refl _ _ _⟩
  | succ d ih =>
    intro i ρ M l ap ac bq bc hi hl h ha ca hb cb
    subst hl
    have hPo : WPok P := hR.ok (fun l hl => by
      rw [hP] at hl
      obtain ⟨r, hr, rfl⟩ := List.mem_map.1 hl
      exact hall r hr)
    have htb : P.tb.length = tr.length := by rw [hP]; simp
    have y0 : M.ld x6 0 = some (.int .i64 P.p) := h.ly.ld 0
    have y1 : M.ld x6 1 = some (.int .i64 P.s) := h.ly.ld 1
    obtain ⟨_, k11⟩ := lay36_spec P.p P.s
    have hw : IntKind.wrap .i64 ((l.length : Int) + 1) = ((l.length + 1 : Nat) : Int) := by rw [w64 (by omega)]; rfl
    obtain ⟨M1, ρ1, w1, B1, e1, p1, x1⟩ := (pnew (ρ := ρ) (k := 2 * l.length + 2) hP h.tb h.lt h.c0 hall htl).1 hR
    obtain ⟨S1, t1, hS1⟩ := x1.same
    have h1 := h.ext x1 (fun _ hh => hh.elim)
    have ha1 := ha.same t1 (Ext.free (K := fun _ => False) ca hS1 (fun hh => hh))
    have hb1 := hb.same t1 (Ext.free (K := fun _ => False) cb hS1 (fun hh => hh))
    have ca1 := ca.ext x1
    have cb1 := cb.ext x1
    have z0 : M1.ld x6 0 = some (.int .i64 P.p) := h1.ly.ld 0
    have z1 : M1.ld x6 1 = some (.int .i64 P.s) := h1.ly.ld 1
    obtain ⟨M2, e2, t2⟩ := (dright hP h1.tb hall htl).1 hR
    have x2 : Ext (fun _ => False) ρ1 M1 ρ1 M2 := Ext.of t2 (fun z hz => by simp at hz)
    have h2 := h1.ext x2 (fun _ hh => hh.elim)
    have p2 := p1.st t2
    have ha2 := ha1.same t2 (by simp)
    have hb2 := hb1.same t2 (by simp)
    have ca2 := ca1.ext x2
    have cb2 := cb1.ext x2
    obtain ⟨M3, a1, a2, a3, a4⟩ := append_row (bytes := 8) (v := 0) (new := [pt w1]) (m := 1) ha2 rfl (by omega) (by omega)
    have hrow := rowOf_new M2 1 1 [pt w1] 0 1 rfl
    have x3 : Ext (fun c => c = (1, 3)) ρ1 M2 (upd ρ1 M2.length fun _ => (1, 3)) M3 := Ext.upd a3 (fun z hz _ => (ca2 z hz).2) _
    have c3 : (upd ρ1 M2.length fun _ => (1, 3)) (M2.length + 1) = (1, 3) := upd_ge (Nat.le_succ _)
    generalize (upd ρ1 M2.length fun _ => (1, 3)) = ρ3 at x3 c3
    obtain ⟨S3, t3, hS3⟩ := x3.same
    have h3 := h2.ext x3 (fun c hc => .inl hc)
    have p3 := p2.ext x3 (fun r hh => by have := congrArg Prod.fst hh; simp at this) (fun hh => by cases hh)
    have hb3 := hb2.same t3 (Ext.free (K := fun c => c = (1, 3)) cb2 hS3 (fun hh => by cases hh))
    have cb3 := cb2.ext x3
    have ca3 : Col M3 ρ3 (blk (some (⟨M2.length + 1, 0, none⟩ : Addr))) (1, 3) := fun z hz => by
      simp only [blk_some, List.mem_singleton] at hz
      subst hz
      exact ⟨by omega, c3⟩
    have u0 : M3.ld x6 0 = some (.int .i64 P.p) := h3.ly.ld 0
    have u1 : M3.ld x6 1 = some (.int .i64 P.s) := h3.ly.ld 1
    obtain ⟨M4, e4, t4⟩ := dnew (tp := tp) M3 hPo htb
    have x4' : Ext (fun _ => False) ρ3 M3 ρ3 M4 := Ext.of t4 (fun z hz => by simp at hz)
    have h4 := h3.ext x4' (fun _ hh => hh.elim)
    have p4 := p3.st t4
    have ha4 := a2.same t4 (by simp)
    have hb4 := hb3.same t4 (by simp)
    have ca4 := ca3.ext x4'
    have cb4 := cb3.ext x4'
    obtain ⟨M5, b1, b2, b3, b4⟩ := append_row (bytes := 336) (v := 0) (new := encD P tp (newDB P) .new) (m := 1) hb4 rfl (by omega) (by omega)
    have hrow5 := rowOf_new M4 31 1 (encD P tp (newDB P) .new) 0 31 rfl
    have x5 : Ext (fun c => c = (1, 1)) ρ3 M4 (upd ρ3 M4.length fun _ => (1, 1)) M5 := Ext.upd b3 (fun z hz _ => (cb4 z hz).2) _
    have c5 : (upd ρ3 M4.length fun _ => (1, 1)) (M4.length + 1) = (1, 1) := upd_ge (Nat.le_succ _)
    generalize (upd ρ3 M4.length fun _ => (1, 1)) = ρ5 at x5 c5
    obtain ⟨S5, t5, hS5⟩ := x5.same
    have h5 := h4.ext x5 (fun c hc => .inr hc)
    have p5 := p4.ext x5 (fun r hh => by have := congrArg Prod.fst hh; simp at this) (fun hh => by cases hh)
    have ha5 := ha4.same t5 (Ext.free (K := fun c => c = (1, 1)) ca4 hS5 (fun hh => by cases hh))
    have ca5 := ca4.ext x5
    have cb5 : Col M5 ρ5 (blk (some (⟨M4.length + 1, 0, none⟩ : Addr))) (1, 1) := fun z hz => by
      simp only [blk_some, List.mem_singleton] at hz
      subst hz
      exact ⟨by omega, c5⟩
    have hB : MkB N x6 P tp tr mb ma mr p c ρ5 M5 (l ++ [⟨w1, B1, newDB P, .new⟩]) L := by
      refine ⟨fun j x hx => ?_, fun j x hx => ?_, fun x hx => ?_, h5.tb, h5.mm, h5.hc, h5.rr, h5.hr, h5.ly, h5.c6, h5.lt, h5.c0⟩
      · rcases Nat.lt_or_ge j l.length with hj | hj
        · rw [List.getElem?_append_left hj] at hx
          exact h5.ps j x hx
        · rw [List.getElem?_append_right hj] at hx
          have := (ges.1 hx).1
          simp at this
          obtain rfl : j = l.length := by omega
          rw [Nat.sub_self] at hx
          cases hx
          exact p5
      · rcases Nat.lt_or_ge j l.length with hj | hj
        · rw [List.getElem?_append_left hj] at hx
          exact h5.ds j x hx
        · rw [List.getElem?_append_right hj] at hx
          have := (ges.1 hx).1
          simp at this
          obtain rfl : j = l.length := by omega
          rw [Nat.sub_self] at hx
          cases hx
          exact ⟨.nil _ _ _, Col.nil _, View.nil, fun h => absurd rfl h, View.nil, Col.nil _, fun h => (by cases h), fun _ => rfl, h5.lt, h5.c0⟩
      · rcases List.mem_append.1 hx with hx | hx
        · exact h5.nw x hx
        · simp only [List.mem_singleton] at hx
          subst hx; rfl
    have hla : (l ++ [(⟨w1, B1, newDB P, .new⟩ : Wk)]).length = l.length + 1 := by simp
    obtain ⟨ρ', M', l', ap', ac', bq', bc', r1, r2, r3, r4, r5, r6, r7, r8⟩ := ih (l.length + 1) ρ5 M5 (l ++ [⟨w1, B1, newDB P, .new⟩]) (some ⟨M2.length + 1, 0, none⟩) 1 (some ⟨M4.length + 1, 0, none⟩) 31 (by omega) hla hB
      (by rw [hla, List.flatMap_append]; exact ha5) ca5 (by rw [hla, List.flatMap_append]; simpa [encX] using b2) cb5
    have xx : Ext (fun c => c = (1, 3) ∨ c = (1, 1)) ρ M ρ5 M5 := (((x1.mono (fun _ h => h.elim)).trans (x2.mono (fun _ h => h.elim))).trans (x3.mono (fun c hc => .inl hc))).trans ((x4'.mono (fun _ h => h.elim)).trans (x5.mono (fun c hc => .inr hc)))
    refine ⟨ρ', M', l', ap', ac', bq', bc', ?_, r2, r3, r4, r5, r6, r7, xx.trans r8⟩
    rw [P3_22_eq LL L_loop, P3_26_eq, hm, decide_eq_true (show (l.length : Int) < (m : Int) by omega), ifT, bLI y0, bLI y1, bX k11]
    rw [show ∀ f : List Value → Res, Option.bind (aggOf? 2 (lay P.p P.s)) f = f [.int .i64 P.p, .int .i64 P.s] from fun f => rfl, bI0, bI1, bX e1, bP, bLI z0, bLI z1, bX e2, bB]
    rw [show (!((!Option.isNone (some (⟨w1, 0, none⟩ : Addr))) == true)) = false from rfl, ifF, show Option.isNone (some (⟨w1, 0, none⟩ : Addr)) = false from rfl, ifF, P3_49_eq, bX hrow, a1]
    rw [bLI u0, bLI u1, bX e4]
    change (Option.bind (rowOf (M4 ++ [AObj.cells (encD P tp (newDB P) .new) ⟨false, 0⟩]) 31 (.slice (some ⟨(List.length M4), 0, none⟩) 1 31)) fun row_41 =>
      (appendK 31 336 bq l.length bc 1 row_41 (M4 ++ [AObj.cells (encD P tp (newDB P) .new) ⟨false, 0⟩]) fun p_42 n_43 c_44 M_45 =>
        P3_52 LL P.size P.room tp tr.length 0 x4 w wn 0 x6 mr (some ⟨mb, 0, none⟩) (some ⟨M2.length + 1, 0, none⟩) (l.length + 1) 1 p_42 n_43 c_44 (l.length : Int) M_45)) = _
    rw [bX hrow5, b1, P3_52_eq, hw]
    exact r1
theorem make_none (hP : P.tb = tr.map Row.l) (hR : ¬ WRt P) (hall : ∀ r ∈ tr, r.l.length ≤ 1000000) (htl : tr.length ≤ 1000000000) {w : Option Addr} {wn : Nat} {x4 : Int} {m : Nat} (hm : IntKind.wrap .i64 (1 + (Int.tmod (IntKind.wrap .i64 x4) 4)) = (m : Int)) (hm0 : 0 < m) {x13 : Nat} {x15 : Option Addr}
    (htb : TbOk N M tp tr) (hly : Rd M x6 [.int .i64 P.p, .int .i64 P.s]) (hN : N ≤ M.length) :
    ∃ M', P3_22 LL P.size P.room tp tr.length 0 x4 w wn 0 x6 x13 x15 none 0 0 none 0 0 0 M = some (.bool true, M') := by
  have y0 : M.ld x6 0 = some (.int .i64 P.p) := hly.ld 0
  have y1 : M.ld x6 1 = some (.int .i64 P.s) := hly.ld 1
  obtain ⟨_, k11⟩ := lay36_spec P.p P.s
  obtain ⟨_, aw⟩ := awake36
  obtain ⟨M1, e1, t1⟩ := (pnew (ρ := fun _ => (0, 0)) (k := 2) hP htb hN (fun _ _ => rfl) hall htl).2 hR
  have ht1 := htb.same t1 (by simp)
  have z0 : M1.ld x6 0 = some (.int .i64 P.p) := (hly.same t1 (by simp)).ld 0
  have z1 : M1.ld x6 1 = some (.int .i64 P.s) := (hly.same t1 (by simp)).ld 1
  obtain ⟨M2, e2, t2⟩ := (dright hP ht1 hall htl).2 hR
  have ht2 := ht1.same t2 (by simp)
  have u0 : M2.ld x6 0 = some (.int .i64 P.p) := ((hly.same t1 (by simp)).same t2 (by simp)).ld 0
  have u1 : M2.ld x6 1 = some (.int .i64 P.s) := ((hly.same t1 (by simp)).same t2 (by simp)).ld 1
  obtain ⟨M3, e3, t3⟩ := (pnew (ρ := fun _ => (0, 0)) (k := 2) hP ht2 (Nat.le_trans hN (Nat.le_trans t1.le t2.le)) (fun _ _ => rfl) hall htl).2 hR
  have ag : ∀ f : List Value → Res, Option.bind (aggOf? 2 (lay P.p P.s)) f = f [.int .i64 P.p, .int .i64 P.s] := fun f => rfl
  rw [P3_22_eq LL L_loop, P3_26_eq, hm, decide_eq_true (show (0 : Int) < (m : Int) by omega), ifT, bLI y0, bLI y1, bX k11]
  rw [ag, bI0, bI1, bX e1, bP, bLI z0, bLI z1, bX e2, bB]
  rw [show (!((!Option.isNone (none : Option Addr)) == false)) = false from rfl, ifF, show Option.isNone (none : Option Addr) = true from rfl, ifT, bLI u0, bLI u1, bX k11, ag, bI0, bI1, bX e3, bP, bX (done_nilW M3), bB, ifT, bX aw, bB]
  exact ⟨M3, rfl⟩
end
open Go.ChangeShapes Go.WideShapes Go.ChangeAt Go.RowKit
theorem args36 {A : AMem} {vs : List Value} (h : HoldsA A [(true, [.int .i64, .int .i64]), (false, [.int .i64]), (false, [.int .i64]), (false, [.slice [.slice [.int .i64, .int .i64, .int .i64, .int .i64]]]), (false, [.int .u8]), (false, [.slice [.int .u8]])] vs) :
    ∃ p s size room tp tr x w ord, vs = [lay p s, .int .i64 size, .int .i64 room, .slice tp (List.length tr) 0, .int .u8 x, .slice w (List.length ord) 0] ∧ TbOk A.length A tp tr ∧ tr.length ≤ 1000000000000000 ∧ (∀ r ∈ tr, r.l.length ≤ 1000000000000000) ∧ (0 ≤ x ∧ x < 256) ∧ RdI A .u8 w ord.length ord ∧ (∀ x ∈ ord, 0 ≤ x ∧ x < 256) ∧ (0 < ord.length → ∀ b ∈ blk w, b < A.length) := by
  obtain ⟨_, _, rfl, ha, _, _, rfl, hb, _, _, rfl, hc, _, _, rfl, hd, _, _, rfl, he, _, _, rfl, hf, rfl⟩ := h
  unfold HoldsV at ha hb hc hd he hf
  rw [if_pos rfl] at ha
  rw [if_neg (by simp)] at hb hc hd he hf
  obtain ⟨cs, rfl, ha⟩ := ha
  simp only [HoldsL, Holds] at ha
  obtain ⟨_, _, e0, ⟨p, rfl, _⟩, _, _, rfl, ⟨s, rfl, _⟩, rfl⟩ := ha
  simp only [HoldsL, Holds] at hb hc he
  obtain ⟨_, _, e, ⟨size, rfl, _⟩, rfl⟩ := hb
  cases e
  obtain ⟨_, _, e, ⟨room, rfl, _⟩, rfl⟩ := hc
  cases e
  obtain ⟨_, _, e, ⟨x, rfl, hx⟩, rfl⟩ := he
  cases e
  obtain ⟨_, _, e, hd, hd'⟩ := holdsL_cons hd
  cases e
  obtain ⟨_, _, e, hf, hf'⟩ := holdsL_cons hf
  cases e
  obtain ⟨tp, tr, rfl, b1, b2, b3⟩ := holds_listZ encRow (fun r => (RdL A encS r.p r.l.length r.l) ∧ r.l.length ≤ reachBytes) (by simp) hd fun cs hc => by
    obtain ⟨_, r, rfl, h1, h2⟩ := holdsL_cons hc
    simp only [HoldsL] at h2
    subst h2
    obtain ⟨p', l, rfl, c1, c2, c3⟩ := holds_listZ encS (fun _ => True) (by simp) h1 fun cs hc => by
      simp only [HoldsL, Holds] at hc
      obtain ⟨_, _, rfl, ⟨x0, rfl, _⟩, _, _, rfl, ⟨x1, rfl, _⟩, _, _, rfl, ⟨x2, rfl, _⟩, _, _, rfl, ⟨x3, rfl, _⟩, rfl⟩ := hc
      exact ⟨⟨x0, x1, x2, x3⟩, trivial, rfl⟩
    exact ⟨⟨p', l⟩, ⟨c1, c3⟩, rfl⟩
  obtain ⟨w, ord, rfl, h1, h2, h3⟩ := holds_listZ (fun x => [Value.int .u8 x]) (fun x => (Lit.int .u8 x).wf = true) (by simp) hf fun cs hc => by
    simp only [HoldsL, Holds] at hc
    obtain ⟨_, _, rfl, ⟨x0, rfl, hx⟩, rfl⟩ := hc
    exact ⟨x0, hx, rfl⟩
  refine ⟨p, s, size, room, tp, tr, x, w, ord, ?_, ⟨b1, fun r hr => (b2 r hr).1, fun hne => b1.lt (List.length_pos_iff.2 hne), fun r hr hne => (b2 r hr).1.lt (List.length_pos_iff.2 hne)⟩, ?_, fun r hr => ?_, ?_, h1.rdI, fun x hx => by have := bounds_u8 (h2 x hx); omega, fun h => h1.lt h⟩
  · congr 2
    have : cs = #[.int .i64 p, .int .i64 s] := by
      apply Array.toList_inj.1
      rw [e0]
    rw [this]
  · unfold reachBytes at b3; omega
  · have := (b2 r hr).2
    unfold reachBytes at this; omega
  · have := bounds_u8 hx; omega
theorem tmod4 {x : Int} (h : 0 ≤ x ∧ x < 256) : ∃ m : Nat, IntKind.wrap .i64 (1 + (Int.tmod (IntKind.wrap .i64 x) 4)) = (m : Int) ∧ 0 < m ∧ m ≤ 4 := by
  have e1 : IntKind.wrap .i64 x = x := w64 (by omega)
  have h1 := Int.tmod_nonneg (a := x) 4 h.1
  have h2 := Int.tmod_lt_of_pos x (b := 4) (by omega)
  refine ⟨(1 + Int.tmod x 4).toNat, ?_, by omega, by omega⟩
  rw [e1, w64 (by omega)]
  omega
theorem wplays_on (A M : AMem) (p s size room : Int) (tp w : Option Addr) (tr : List Row) (x : Int) (ord : List Int) (htb : TbOk A.length A tp tr) (hall : ∀ r ∈ tr, r.l.length ≤ 1000000) (htl : tr.length ≤ 1000000000) (hx : 0 ≤ x ∧ x < 256) (hr : RdI A .u8 w ord.length ord) (hord : ∀ x ∈ ord, 0 ≤ x ∧ x < 256) (hw : 0 < ord.length → ∀ b ∈ blk w, b < A.length)
    (hol : ord.length ≤ 200) (hsml : Rt p s → p ≤ 12 ∧ s ≤ 4) (g0 : Cells M A.length [.int .i64 p, .int .i64 s]) (s0 : Same A M []) :
    ∃ A', P3_5 LL size room tp tr.length 0 x w ord.length 0 A.length false M = some (.bool true, A') := by
  rw [P3_5_eq, ifF]
  have y0 : M.ld A.length 0 = some (.int .i64 p) := g0.ld 0
  have y1 : M.ld A.length 1 = some (.int .i64 s) := g0.ld 1
  obtain ⟨_, ks⟩ := rsize31_spec p s
  obtain ⟨m, hm, hm0, hm4⟩ := tmod4 hx
  have hsz : 0 ≤ (if Rt p s then 1 + 2 * s + 3 * p else 0) ∧ (if Rt p s then 1 + 2 * s + 3 * p else 0) ≤ 1000 := by
    split
    · next hR =>
      have := hsml hR
      obtain ⟨r1, r2, r3, r4⟩ := hR
      omega
    · omega
  have hszR : Rt p s → (if Rt p s then 1 + 2 * s + 3 * p else 0) = 1 + 2 * s + 3 * p := fun h => if_pos h
  generalize (if Rt p s then 1 + 2 * s + 3 * p else 0) = sz at ks hsz hszR
  rw [bLI y0, bLI y1, bX ks, bI]
  obtain ⟨M2, q, e2, k2, t2, f2⟩ := rnew_spec sz M (by omega)
  rw [bX e2, bT2, bG0, bA3, bS0, bI1, bI2, bG1, bB]
  have g3 := cells_new M2 [.slice none 0 0, .int .i64 0, .int .i64 0] 0
  have s3 := same_app M2 [AObj.cells [.slice none 0 0, .int .i64 0, .int .i64 0] ⟨false, 0⟩]
  simp only
  generalize M2 ++ [AObj.cells [.slice none 0 0, .int .i64 0, .int .i64 0] ⟨false, 0⟩] = M2' at g3 s3 ⊢
  obtain ⟨M3, w1, w2, w3, w4⟩ := g3.wr (o := 0) (vs := [.slice q sz.toNat 1, .int .i64 0, .int .i64 0]) (by exact (by decide : 0 + 3 ≤ 3))
  have w2' : Cells M3 M2.length [.slice q sz.toNat 1, .int .i64 0, .int .i64 0] := w2
  have t3 : Same M2 M3 [] := (s3.trans w3).mono' (fun b hb hl => by simp at hb; omega)
  have tM3 : Same M M3 [] := (t2.trans t3).mono (by simp)
  have g03 := g0.same tM3 (by simp)
  have u0 : M3.ld A.length 0 = some (.int .i64 p) := g03.ld 0
  have u1 : M3.ld A.length 1 = some (.int .i64 s) := g03.ld 1
  obtain ⟨M4, mb, ma, e4, k4, t4, f4a, f4b, _⟩ := new_spec sz M3 (by omega)
  rw [bX w1, bLI u0, bLI u1, bX ks, bI, bX e4, bP]
  have tM4 : Same M M4 [] := (tM3.trans t4).mono (by simp)
  have hl2 := t2.le
  have hl3 := t3.le
  have hl4 := t4.le
  have hl0 := s0.le
  have hMl := g0.lt
  have tA4 : Same A M4 [] := (s0.trans tM4).mono (by simp)
  have htb4 := htb.same tA4 (by simp)
  have g04 := g0.same tM4 (by simp)
  have hlen : (List.replicate sz.toNat (0 : Int)).length = sz.toNat := by simp
  have hP : (⟨p, s, size, room, tr.map Row.l⟩ : WP).tb = tr.map Row.l := rfl
  by_cases hR : WRt ⟨p, s, size, room, tr.map Row.l⟩
  rotate_left
  · exact make_none (P := ⟨p, s, size, room, tr.map Row.l⟩) hP hR hall htl hm hm0 htb4 g04.rd tA4.le
  have hrt : Rt p s := hR.1.1
  have hPo : WPok ⟨p, s, size, room, tr.map Row.l⟩ := hR.ok (fun l hl => by
    obtain ⟨r, hr, rfl⟩ := List.mem_map.1 hl
    exact hall r hr)
  have hmk : ∃ ρ, MkB A.length A.length ⟨p, s, size, room, tr.map Row.l⟩ tp tr mb ma M2.length q 1 ρ M4 [] (List.replicate sz.toNat 0) := by
    refine ⟨fun z => if z < A.length then (0, 0) else if z < M.length then (1, 6) else if z < M3.length then (1, 2) else (1, 0), ⟨fun i x hx => by simp at hx, fun i x hx => by simp at hx, fun x hx => by simp at hx, htb4, k4, ⟨?_, ?_⟩, ⟨?_, ?_, ?_⟩, ⟨?_, fun z hz => ⟨?_, ?_⟩⟩, g04.rd, ?_, tA4.le, fun z hz => ?_⟩⟩
    · rw [if_neg (by omega), if_neg (by omega), if_neg (by omega)]
    · rw [if_neg (by omega), if_neg (by omega), if_neg (by omega)]
    · rw [hlen]; exact w2'.same t4 (by simp)
    · rw [hlen]; exact (k2.same t3 (by simp)).same t4 (by simp)
    · exact fun hm => by have := k2.lt _ hm; omega
    · have := w2'.lt
      rw [if_neg (by omega), if_neg (by omega), if_pos this]
    · have := k2.lt z hz; omega
    · have := k2.lt z hz
      have := f2 z hz
      simp only
      rw [if_neg (by omega), if_neg (by omega), if_pos (by omega)]
    · rw [if_neg (by omega), if_pos hMl]
    · rw [if_pos hz]
  obtain ⟨ρ0, hmk⟩ := hmk
  obtain ⟨ρ1, M5, l, ap, ac, bq, bc, r1, r2, r3, r4, r5, r6, r7, r8⟩ := make_loop (P := ⟨p, s, size, room, tr.map Row.l⟩) (w := w) (wn := ord.length) hP hR hall htl hm hm4 m 0 ρ0 M4 [] none 0 none 0 (by omega) rfl hmk (by simpa using Slc.nil M4 1 0) (Col.nil _) (by simpa using Slc.nil M4 31 0) (Col.nil _)
  have r1' : P3_22 LL size room tp tr.length 0 x w ord.length 0 A.length M2.length (some ⟨mb, 0, none⟩) none 0 0 none 0 0 0 M4 = _ := r1
  rw [r1', P3_53_eq]
  obtain ⟨ao, rfl, ha⟩ := r3.pos (by omega)
  obtain ⟨rb, rfl, hb⟩ := r5.pos (by omega)
  have hA : AllS A.length ⟨p, s, size, room, tr.map Row.l⟩ tp tr mb ma M2.length q 1 ao rb 0 ρ1 M5 l (List.replicate sz.toNat 0) 0 0 0 :=
    ⟨r2.ps, ha, (r4 ao (by simp)).2, hb, (r6 rb (by simp)).2, r2.ds, fun x hx => by rw [r2.nw x hx]; exact new_ok hPo, r2.tb, r2.mm, r2.hc, r2.rr, r2.hr,
      ⟨by rw [hlen]; have := hszR hrt; simp only; omega, fun x hx => by rw [List.eq_of_mem_replicate hx]; exact Int.le_refl _⟩, ⟨Nat.le_refl _, Nat.le_refl _, Nat.le_refl _⟩, r2.c0⟩
  have hG : GC A.length ⟨p, s, size, room, tr.map Row.l⟩ tr mb ma M2.length := ⟨rfl, hPo⟩
  have hr5 : RdI M5 .u8 w ord.length ord := by
    refine ⟨rfl, fun h0 => ?_⟩
    obtain ⟨wb, ew, hwb⟩ := hr.2 h0
    have hwN : wb < A.length := hw h0 wb (by rw [ew]; simp)
    exact ⟨wb, ew, rd_ext (hwb.same tA4 (by simp)) r8 (by rw [hmk.c0 _ hwN]; exact fun h => by rcases h with h | h <;> cases h)⟩
  obtain ⟨ρ2, M6, l', L', st', wi, wi', q1, q2, q3⟩ := plays_loop (P := ⟨p, s, size, room, tr.map Row.l⟩) (ac := ac) (rc := bc) (m := m) hG ⟨hm0, hm4⟩ hord (by omega) hw ord.length 0 ρ1 M5 l _ 0 0 0 (by omega) r7 hr5 hA
  have q1' : P3_57 LL w ord.length 0 M2.length (some ⟨mb, 0, none⟩) (some ⟨ao, 0, none⟩) m ac (some ⟨rb, 0, none⟩) m bc 0 M5 = _ := q1
  rw [q1', ← q3]
  refine end94 hG q2 (by omega) ?_
  have h1 : (L'.length : Int) = 1 + 2 * s + 3 * p := q2.lo.1
  have h2 := hsml hrt
  obtain ⟨z1, z2, z3, z4⟩ := hrt
  omega
theorem wplays (A : AMem) (p s size room : Int) (tp w : Option Addr) (tr : List Row) (x : Int) (ord : List Int) (htb : TbOk A.length A tp tr) (htl : tr.length ≤ 1000000000000000) (hes : ∀ r ∈ tr, r.l.length ≤ 1000000000000000) (hx : 0 ≤ x ∧ x < 256) (hr : RdI A .u8 w ord.length ord) (hord : ∀ x ∈ ord, 0 ≤ x ∧ x < 256) (hw : 0 < ord.length → ∀ b ∈ blk w, b < A.length) :
    ∃ A', LL.call 3 [lay p s, .int .i64 size, .int .i64 room, .slice tp tr.length 0, .int .u8 x, .slice w ord.length 0] A = some (.bool true, A') := by
  rw [L_call3, E3]
  obtain ⟨_, aw⟩ := awake36
  have g1 := cells_new A [.int .i64 p, .int .i64 s] 0
  have s1 := same_app A [AObj.cells [.int .i64 p, .int .i64 s] ⟨false, 0⟩]
  generalize A ++ [AObj.cells [.int .i64 p, .int .i64 s] ⟨false, 0⟩] = M at g1 s1 ⊢
  have y0 : M.ld A.length 0 = some (.int .i64 p) := g1.ld 0
  have y1 : M.ld A.length 1 = some (.int .i64 s) := g1.ld 1
  have htb1 := htb.same s1 (by simp)
  obtain ⟨_, k⟩ := right12_spec p s
  have off : ∃ A', P3_5 LL size room tp tr.length 0 x w ord.length 0 A.length true M = some (.bool true, A') := by
    rw [P3_5_eq, ifT, bX aw, bB]
    exact ⟨_, rfl⟩
  have rest : (Rt p s → p ≤ 12 ∧ s ≤ 4) → ∃ A', (Option.bind (LL.call 5 [.slice tp tr.length 0, .int .i64 12, .int .i64 24] M) fun r_7 =>
          (Option.bind (boolOf? (some r_7.1)) fun q_8 =>
          (if (!q_8) = true
          then P3_5 LL size room tp tr.length 0 x w ord.length 0 A.length true r_7.2
          else P3_5 LL size room tp tr.length 0 x w ord.length 0 A.length (decide ((Int.ofNat ord.length) > 200)) r_7.2))) = some (.bool true, A') := fun hsml => by
    rw [bX (small_spec htb1 htl hes), bB]
    by_cases hf : tr.length ≤ 12 ∧ totR tr ≤ 24
    · rw [decide_eq_true hf, ifNT]
      by_cases ho : Int.ofNat ord.length > 200
      · rw [decide_eq_true ho]; exact off
      · rw [decide_eq_false ho]
        rw [ofN] at ho
        exact wplays_on A M p s size room tp w tr x ord htb (fun r hr => by have := totR_mem hr; omega) (by omega) hx hr hord hw (by omega) hsml g1 s1
    · rw [decide_eq_false hf, ifNF]
      exact off
  rw [bLI y0, bLI y1, bX k, bB]
  by_cases hR : Rt p s
  · rw [decide_eq_true hR, ifT, bLI y0]
    by_cases hp : p > 12
    · rw [ifD hp]; exact off
    rw [ifDn hp, bLI y1]
    by_cases hs : s > 4
    · rw [ifD hs]; exact off
    rw [ifDn hs]
    exact rest (fun _ => by omega)
  · rw [decide_eq_false hR, ifF]
    exact rest (fun h => absurd h hR)
theorem wplays_main (A : AMem) (vs : List Value) (h : HoldsA A [(true, [.int .i64, .int .i64]), (false, [.int .i64]), (false, [.int .i64]), (false, [.slice [.slice [.int .i64, .int .i64, .int .i64, .int .i64]]]), (false, [.int .u8]), (false, [.slice [.int .u8]])] vs) :
    ∃ A', (lim env).call 3 vs A = some (.bool true, A') := by
  obtain ⟨p, s, size, room, tp, tr, x, w, ord, rfl, h1, h2, h3, h4, h5, h6, h7⟩ := args36 h
  have := wplays A p s size room tp w tr x ord h1 h2 h3 h4 h5 h6 h7
  rw [LL_lim] at this
  exact this
theorem workerPlays_lifted (os : Os) (started : os.Started) (H : Type) (enc : TypeId × Value → H) :
    ReturnsInHanded {} Tryz.checked os 3 .any (Rows.workerPlaysSpec.pre6 enc Tryz.prog Tryz.f3 Rows.workerPlaysRow.domain false) (Rows.workerPlaysSpec.post enc Tryz.prog Tryz.f3 false true false false) :=
  lifted_of_args (C := Tryz.checked) (E := env) (by kernel_rfl) started (by kernel_rfl) Tryz.func3
    (ChangeSpec.witness6 (enc := enc) (C := Tryz.checked) false ⟨#[], #[.agg #[.int .i64 0, .int .i64 0], .int .i64 0, .int .i64 0, .slice none 0 0, .int .u8 0, .slice none 0 0], []⟩ 8 (by kernel_rfl) (by kernel_rfl) (by kernel_rfl) (by kernel_rfl))
    (by kernel_rfl) (by kernel_rfl) (by kernel_rfl : Tryz.f3.resultTypes = #[4]) (by kernel_rfl) rfl
    (fun ds hd => by
      match ds, hd with
      | [d1, d2, d3, d4, d5, d6], _ => rfl) envOk (by kernel_rfl) (by kernel_rfl) wplays_main
theorem workerPlays_holds : Rows.WorkerPlaysSaid :=
  OpenClaim.holds_of_wide 3 Tryz.f3 rfl rfl rfl rfl rfl rfl rfl ⟨rfl, rfl, rfl, rfl, rfl⟩ rfl rfl rfl rfl rfl (by kernel_rfl) Tryz.func3 (by kernel_rfl)
    (of_decide_eq_true (by kernel_rfl)) (by unfold Func.isWrapper; rw [if_neg (of_decide_eq_false (by kernel_rfl))]; exact ⟨rfl, rfl⟩)
    (fun os started H enc _ => workerPlays_lifted os started H enc)
end Go.Proofs.YtbclhglmdhojdaaGreat
