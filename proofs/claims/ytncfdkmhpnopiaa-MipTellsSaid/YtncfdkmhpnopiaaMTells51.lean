/- MipTells: the walk over the law. -/
import Derived.Test.YtncfdkmhpnopiaaMipR2
import Derived.Test.YtncfdkmhpnopiaaMipO
import Derived.Test.YtncfdkmhpnopiaaMAwake
import Derived.Test.YtncfdkmhpnopiaaEqMTells
set_option linter.unusedVariables false
set_option maxRecDepth 20000
set_option linter.unusedSimpArgs false
namespace Go.Proofs.Ytncfdkmhpnopiaa
open Go Go.Ax

def gz (f : Bool) (x : Int) : Int := if f = true then x else 0
def gl (f : Bool) (l : List Px) : List Px := if f = true then l else []

theorem gl_len {f : Bool} {l : List Px} {n : Nat} (h : l.length ≤ n) : (gl f l).length ≤ n := by
  unfold gl
  split
  · exact h
  · simp

theorem dbl_u {W H w h : Int} {p : Option Addr} {cp : Nat} {l : List Px} (hl : l.length ≤ 9223372036854775807) {M : AMem} (hp : RdL M encP p l.length l) {f : Bool} (hf' : decide (DFit W H l w h) = f) :
    ∃ M' o oc, LL.call 11 [picV W H p l.length cp, .int .i64 w, .int .i64 h] M = some (.tuple #[picV (gz f w) (gz f h) o (gl f (dblL W.toNat w.toNat h.toNat l)).length oc, .bool f], M') ∧ RdL M' encP o (gl f (dblL W.toNat w.toNat h.toNat l)).length (gl f (dblL W.toNat w.toNat h.toNat l)) ∧ Same M M' [] := by
  have hs := double_spec (W := W) (H := H) (w := w) (h := h) (cp := cp) hl hp
  cases f with
  | true =>
    obtain ⟨M', o, oc, h1, h2, h3, _⟩ := hs.1 (of_decide_eq_true hf')
    have e := dblL_length W.toNat w.toNat h.toNat l
    refine ⟨M', o, oc, ?_, ?_, h3⟩
    · simp only [gz, gl, if_true, e]; exact h1
    · simp only [gl, if_true, e]; exact h2
  | false =>
    obtain ⟨M', h1, h3⟩ := hs.2 (of_decide_eq_false hf')
    exact ⟨M', none, 0, h1, ⟨rfl, fun h => by simp [gl] at h⟩, h3⟩

theorem rdbl_u {W H w h : Int} {p : Option Addr} {cp : Nat} {l : List Px} (hl : l.length ≤ 9223372036854775807) {M : AMem} (hp : RdL M encP p l.length l) {f : Bool} (hf' : decide (DFit W H l w h) = f) :
    ∃ M' o oc, LL.call 17 [picV W H p l.length cp, .int .i64 w, .int .i64 h] M = some (.tuple #[picV (gz f w) (gz f h) o (gl f (dblL W.toNat w.toNat h.toNat l)).length oc, .bool f], M') ∧ RdL M' encP o (gl f (dblL W.toNat w.toNat h.toNat l)).length (gl f (dblL W.toNat w.toNat h.toNat l)) ∧ Same M M' [] := by
  have hs := rdouble_spec (W := W) (H := H) (w := w) (h := h) (cp := cp) hl hp
  cases f with
  | true =>
    obtain ⟨M', o, oc, h1, h2, h3⟩ := hs.1 (of_decide_eq_true hf')
    have e := dblL_length W.toNat w.toNat h.toNat l
    refine ⟨M', o, oc, ?_, ?_, h3⟩
    · simp only [gz, gl, if_true, e]; exact h1
    · simp only [gl, if_true, e]; exact h2
  | false =>
    obtain ⟨M', h1, h3⟩ := hs.2 (of_decide_eq_false hf')
    exact ⟨M', none, 0, h1, ⟨rfl, fun h => by simp [gl] at h⟩, h3⟩

theorem cut_u {W H x y w h : Int} {p : Option Addr} {cp : Nat} {l : List Px} (hl : l.length ≤ 9223372036854775807) {M : AMem} (hp : RdL M encP p l.length l) {f : Bool} (hf' : decide (CFit W H l x y w h) = f) :
    ∃ M' o oc, LL.call 10 [picV W H p l.length cp, .int .i64 x, .int .i64 y, .int .i64 w, .int .i64 h] M = some (.tuple #[picV (gz f w) (gz f h) o (gl f (cutL W.toNat x.toNat y.toNat w.toNat h.toNat l)).length oc, .bool f], M') ∧ RdL M' encP o (gl f (cutL W.toNat x.toNat y.toNat w.toNat h.toNat l)).length (gl f (cutL W.toNat x.toNat y.toNat w.toNat h.toNat l)) ∧ Same M M' [] := by
  have hs := cut_spec (W := W) (H := H) (x := x) (y := y) (w := w) (h := h) (cp := cp) hl hp
  cases f with
  | true =>
    obtain ⟨M', o, oc, h1, h2, h3, _⟩ := hs.1 (of_decide_eq_true hf')
    have e := cutL_length W.toNat x.toNat y.toNat w.toNat h.toNat l
    refine ⟨M', o, oc, ?_, ?_, h3⟩
    · simp only [gz, gl, if_true, e]; exact h1
    · simp only [gl, if_true, e]; exact h2
  | false =>
    obtain ⟨M', h1, h3⟩ := hs.2 (of_decide_eq_false hf')
    exact ⟨M', none, 0, h1, ⟨rfl, fun h => by simp [gl] at h⟩, h3⟩

theorem rcut_u {W H x y w h : Int} {p : Option Addr} {cp : Nat} {l : List Px} (hl : l.length ≤ 9223372036854775807) {M : AMem} (hp : RdL M encP p l.length l) {f : Bool} (hf' : decide (CFit W H l x y w h) = f) :
    ∃ M' o oc, LL.call 18 [picV W H p l.length cp, .int .i64 x, .int .i64 y, .int .i64 w, .int .i64 h] M = some (.tuple #[picV (gz f w) (gz f h) o (gl f (cutL W.toNat x.toNat y.toNat w.toNat h.toNat l)).length oc, .bool f], M') ∧ RdL M' encP o (gl f (cutL W.toNat x.toNat y.toNat w.toNat h.toNat l)).length (gl f (cutL W.toNat x.toNat y.toNat w.toNat h.toNat l)) ∧ Same M M' [] := by
  have hs := rcut_spec (W := W) (H := H) (x := x) (y := y) (w := w) (h := h) (cp := cp) hl hp
  cases f with
  | true =>
    obtain ⟨M', o, oc, h1, h2, h3⟩ := hs.1 (of_decide_eq_true hf')
    have e := cutL_length W.toNat x.toNat y.toNat w.toNat h.toNat l
    refine ⟨M', o, oc, ?_, ?_, h3⟩
    · simp only [gz, gl, if_true, e]; exact h1
    · simp only [gl, if_true, e]; exact h2
  | false =>
    obtain ⟨M', h1, h3⟩ := hs.2 (of_decide_eq_false hf')
    exact ⟨M', none, 0, h1, ⟨rfl, fun h => by simp [gl] at h⟩, h3⟩

theorem half_u {W H : Int} {p : Option Addr} {cp : Nat} {l : List Px} (hl : l.length ≤ 9223372036854775807) {M : AMem} (hp : RdL M encP p l.length l) {f : Bool} (hf' : decide (PFit W H l) = f) :
    ∃ M' o oc, LL.call 8 [picV W H p l.length cp] M = some (picV (gz f (hf W.toNat)) (gz f (hf H.toNat)) o (gl f (halfL W.toNat H.toNat l)).length oc, M') ∧ RdL M' encP o (gl f (halfL W.toNat H.toNat l)).length (gl f (halfL W.toNat H.toNat l)) ∧ Same M M' [] := by
  have hs := half_spec (W := W) (H := H) (cp := cp) hl hp
  cases f with
  | true =>
    obtain ⟨M', a, h1, h2, h3, _⟩ := hs.1 (of_decide_eq_true hf')
    have e : (halfL W.toNat H.toNat l).length = hf W.toNat * hf H.toNat := by simp [halfL]
    refine ⟨M', _, 3, ?_, rdl_of h2, h3⟩
    simp only [gz, gl, if_true, e]; exact h1
  | false =>
    obtain ⟨M', h1, h3⟩ := hs.2 (of_decide_eq_false hf')
    exact ⟨M', none, 0, h1, ⟨rfl, fun h => by simp [gl] at h⟩, h3⟩

theorem rhalf_u {W H : Int} {p : Option Addr} {cp : Nat} {l : List Px} (hl : l.length ≤ 9223372036854775807) {M : AMem} (hp : RdL M encP p l.length l) {f : Bool} (hf' : decide (PFit W H l) = f) :
    ∃ M' o oc, LL.call 19 [picV W H p l.length cp] M = some (picV (gz f (hf W.toNat)) (gz f (hf H.toNat)) o (gl f (halfL W.toNat H.toNat l)).length oc, M') ∧ RdL M' encP o (gl f (halfL W.toNat H.toNat l)).length (gl f (halfL W.toNat H.toNat l)) ∧ Same M M' [] := by
  have hs := rhalf_spec (W := W) (H := H) (cp := cp) hl hp
  cases f with
  | true =>
    obtain ⟨M', o, oc, h1, h2, h3, _⟩ := hs.1 (of_decide_eq_true hf')
    have e : (halfL W.toNat H.toNat l).length = hf W.toNat * hf H.toNat := by simp [halfL]
    refine ⟨M', o, oc, ?_, ?_, h3⟩
    · simp only [gz, gl, if_true, e]; exact h1
    · simp only [gl, if_true, e]; exact h2
  | false =>
    obtain ⟨M', h1, h3⟩ := hs.2 (of_decide_eq_false hf')
    exact ⟨M', none, 0, h1, ⟨rfl, fun h => by simp [gl] at h⟩, h3⟩

theorem same_u {W H : Int} {p q : Option Addr} {c d : Nat} {l : List Px} (hl : l.length ≤ 9223372036854775807) {M : AMem} (hp : RdL M encP p l.length l) (hq : RdL M encP q l.length l) :
    ∃ M', LL.call 12 [.agg #[.int .i64 W, .int .i64 H, .slice p l.length c], .agg #[.int .i64 W, .int .i64 H, .slice q l.length d]] M = some (.bool true, M') ∧ Same M M' [] := by
  obtain ⟨M', h1, h2⟩ := same41_spec (Wa := W) (Ha := H) (Wb := W) (Hb := H) (c := c) (d := d) hl hp hq
  rw [show decide (W = W ∧ H = H ∧ l = l) = true by simp] at h1
  exact ⟨M', h1, h2⟩

theorem mt_41 {W H x y w h : Int} {x5 : Nat} {p : Option Addr} {cp : Nat} {l : List Px} (hl : l.length ≤ 40) {M : AMem} (a : IsPic M x5 W H p cp l) :
    ∃ M', P5_41 LL x y w h x5 M = some (.bool true, M') := by
  obtain ⟨_, aw⟩ := awake51
  generalize hd : decide (DFit W H l w h) = f
  generalize hc : decide (CFit W H l x y w h) = g
  generalize hp' : decide (PFit W H l) = k
  have hl' : l.length ≤ 9223372036854775807 := by omega
  have bD : (dblL W.toNat w.toNat h.toNat l).length ≤ 9223372036854775807 ∨ f = false := by
    cases f with
    | false => exact .inr rfl
    | true =>
      refine .inl ?_
      have := of_decide_eq_true hd
      rw [dblL_length]
      have h1 := this.2.1
      have h2 := this.2.2.1
      have := (Nat.mul_le_mul (show w.toNat ≤ 256 by omega) (show h.toNat ≤ 256 by omega) : w.toNat * h.toNat ≤ 256 * 256)
      omega
  have bC : (cutL W.toNat x.toNat y.toNat w.toNat h.toNat l).length ≤ 9223372036854775807 ∨ g = false := by
    cases g with
    | false => exact .inr rfl
    | true =>
      refine .inl ?_
      have := of_decide_eq_true hc
      rw [cutL_length]
      have h1 := this.1.2
      have h2 := this.2.2
      have := (Nat.mul_le_mul (show w.toNat ≤ 256 by omega) (show h.toNat ≤ 256 by omega) : w.toNat * h.toNat ≤ 256 * 256)
      omega
  have bH : (halfL W.toNat H.toNat l).length ≤ 9223372036854775807 ∨ k = false := by
    cases k with
    | false => exact .inr rfl
    | true =>
      refine .inl ?_
      have := of_decide_eq_true hp'
      have h1 := this.2.1
      have h2 := this.2.2.1
      simp only [halfL, tab_length]
      have := (Nat.mul_le_mul (show hf W.toNat ≤ 256 by unfold hf; omega) (show hf H.toNat ≤ 256 by unfold hf; omega) : hf W.toNat * hf H.toNat ≤ 256 * 256)
      omega
  have gb : ∀ (b : Bool) (L : List Px), (L.length ≤ 9223372036854775807 ∨ b = false) → (gl b L).length ≤ 9223372036854775807 := fun b L hb => by
    rcases hb with hb | rfl
    · exact gl_len hb
    · simp [gl]
  have lD := gb f _ bD
  have lC := gb g _ bC
  have lH := gb k _ bH
  obtain ⟨a0, a1, a2⟩ := picV_ld a.hd
  obtain ⟨M1, e1, s1⟩ := of51_spec W H p l.length cp M
  unfold picV at e1
  obtain ⟨M2, o, oc, e2, o2, s2⟩ := dbl_u (W := W) (H := H) (w := w) (h := h) (cp := cp) hl' (a.st s1).px hd
  unfold picV at e2
  generalize hLD : gl f (dblL W.toNat w.toNat h.toNat l) = LD at *
  generalize hLC : gl g (cutL W.toNat x.toNat y.toNat w.toNat h.toNat l) = LC at *
  generalize hLH : gl k (halfL W.toNat H.toNat l) = LH at *
  obtain ⟨M3, w1, w2, w3, w4⟩ := wr_new M2 [.int .i64 0, .int .i64 0, .slice none 0 0] [.int .i64 (gz f w), .int .i64 (gz f h), .slice o LD.length oc] 0 rfl
  have t3 : Same M M3 [] := ((s1.trans s2).trans w3).mono (by simp)
  have D1 : IsPic M3 M2.length (gz f w) (gz f h) o oc LD := ⟨w2.rd, o2.same w3 (by simp)⟩
  obtain ⟨b0, b1, b2⟩ := picV_ld (a.st t3).hd
  obtain ⟨M4, o', oc', e4, o4, s4⟩ := rdbl_u (W := W) (H := H) (w := w) (h := h) (cp := cp) hl' (a.st t3).px hd
  unfold picV at e4
  rw [hLD] at e4 o4
  obtain ⟨M5, w5, w6, w7, w8⟩ := wr_new M4 [.int .i64 0, .int .i64 0, .slice none 0 0] [.int .i64 (gz f w), .int .i64 (gz f h), .slice o' LD.length oc'] 0 rfl
  have t35 : Same M3 M5 [] := (s4.trans w7).mono (by simp)
  have t5 : Same M M5 [] := (t3.trans t35).mono (by simp)
  have D2 : IsPic M5 M4.length (gz f w) (gz f h) o' oc' LD := ⟨w6.rd, o4.same w7 (by simp)⟩
  obtain ⟨c0, c1, c2⟩ := picV_ld (a.st t5).hd
  obtain ⟨M6, e6, s6⟩ := of51_spec W H p l.length cp M5
  unfold picV at e6
  have t6 : Same M M6 [] := (t5.trans s6).mono (by simp)
  obtain ⟨M7, r, rc, e7, o7, s7⟩ := cut_u (W := W) (H := H) (x := x) (y := y) (w := w) (h := h) (cp := cp) hl' (a.st t6).px hc
  unfold picV at e7
  rw [hLC] at e7 o7
  obtain ⟨M8, y1, y2, y3, y4⟩ := wr_new M7 [.int .i64 0, .int .i64 0, .slice none 0 0] [.int .i64 (gz g w), .int .i64 (gz g h), .slice r LC.length rc] 0 rfl
  have t58 : Same M5 M8 [] := ((s6.trans s7).trans y3).mono (by simp)
  have t8 : Same M M8 [] := (t5.trans t58).mono (by simp)
  have C1 : IsPic M8 M7.length (gz g w) (gz g h) r rc LC := ⟨y2.rd, o7.same y3 (by simp)⟩
  obtain ⟨d0, d1, d2⟩ := picV_ld (a.st t8).hd
  obtain ⟨M9, r', rc', e9, o9, s9⟩ := rcut_u (W := W) (H := H) (x := x) (y := y) (w := w) (h := h) (cp := cp) hl' (a.st t8).px hc
  unfold picV at e9
  rw [hLC] at e9 o9
  obtain ⟨N1, z1, z2, z3, z4⟩ := wr_new M9 [.int .i64 0, .int .i64 0, .slice none 0 0] [.int .i64 (gz g w), .int .i64 (gz g h), .slice r' LC.length rc'] 0 rfl
  have t8n : Same M8 N1 [] := (s9.trans z3).mono (by simp)
  have u1 : Same M N1 [] := (t8.trans t8n).mono (by simp)
  have C2 : IsPic N1 M9.length (gz g w) (gz g h) r' rc' LC := ⟨z2.rd, o9.same z3 (by simp)⟩
  obtain ⟨f0, f1, f2⟩ := picV_ld (a.st u1).hd
  obtain ⟨N2, e10, s10⟩ := of51_spec W H p l.length cp N1
  unfold picV at e10
  have u2 : Same M N2 [] := (u1.trans s10).mono (by simp)
  obtain ⟨N3, v, vc, e11, o11, s11⟩ := half_u (W := W) (H := H) (cp := cp) hl' (a.st u2).px hp'
  unfold picV at e11
  rw [hLH] at e11 o11
  obtain ⟨N4, e12, s12⟩ := back51_spec (gz k (hf W.toNat)) (gz k (hf H.toNat)) v LH.length vc N3
  unfold picV at e12
  have u4 : Same M N4 [] := ((u2.trans s11).trans s12).mono (by simp)
  obtain ⟨h0, h1, h2⟩ := picV_ld (a.st u4).hd
  obtain ⟨N5, v', vc', e13, o13, s13⟩ := rhalf_u (W := W) (H := H) (cp := cp) hl' (a.st u4).px hp'
  unfold picV at e13
  rw [hLH] at e13 o13
  obtain ⟨N6, e14, s14⟩ := same_u (W := gz k (hf W.toNat)) (H := gz k (hf H.toNat)) (c := vc) (d := vc') lH ((o11.same s12 (by simp)).same s13 (by simp)) o13
  have u16 : Same N1 N6 [] := ((((s10.trans s11).trans s12).trans s13).trans s14).mono (by simp)
  -- the doubles
  have k1 : Same M3 N6 [] := (((t35.trans t58).trans t8n).trans u16).mono (by simp)
  have k2 : Same M5 N6 [] := ((t58.trans t8n).trans u16).mono (by simp)
  have k3 : Same M8 N6 [] := (t8n.trans u16).mono (by simp)
  obtain ⟨i0, i1, i2⟩ := picV_ld (D1.st k1).hd
  obtain ⟨N7, e15, s15⟩ := back51_spec (gz f w) (gz f h) o LD.length oc N6
  unfold picV at e15
  obtain ⟨j0, j1, j2⟩ := picV_ld ((D2.st k2).st s15).hd
  obtain ⟨N8, e16, s16⟩ := same_u (W := gz f w) (H := gz f h) (c := oc) (d := oc') lD ((D1.st k1).st s15).px ((D2.st k2).st s15).px
  have u68 : Same N6 N8 [] := (s15.trans s16).mono (by simp)
  -- the cuts
  obtain ⟨m0, m1, m2⟩ := picV_ld ((C1.st k3).st u68).hd
  obtain ⟨N9, e17, s17⟩ := back51_spec (gz g w) (gz g h) r LC.length rc N8
  unfold picV at e17
  have u69 : Same N6 N9 [] := (u68.trans s17).mono (by simp)
  obtain ⟨n0, n1, n2⟩ := picV_ld ((C2.st u16).st u69).hd
  obtain ⟨N10, e18, s18⟩ := same_u (W := gz g w) (H := gz g h) (c := rc) (d := rc') lC ((C1.st k3).st u69).px ((C2.st u16).st u69).px
  obtain ⟨_, l1⟩ := levels_spec w h
  obtain ⟨_, l2⟩ := rlevels_spec w h
  have hck : ∀ pairs, chkOk pairs [(21, M9.length), (10, M4.length), (4, x5)] [(20, (N8, N9)), (9, (N6, N7)), (3, (N3, N4)), (2, (N2, N3)), (1, (N1, N2))] = true := fun pairs => by
    refine chk_all fun z hz e he => ?_
    have q1 := C2.lt
    have q2 := (D2.st t58).lt
    have q2' := (D2.st ((t58.trans t8n).mono (by simp))).lt
    have q3 := (a.st u1).lt
    have hzN : z.2 < N1.length := by
      simp only [List.mem_cons, List.not_mem_nil, or_false] at hz
      rcases hz with rfl | rfl | rfl <;> assumption
    have p1 := s10.le
    have p2 := s11.le
    have p3 := u16.le
    have p4 := u68.le
    simp only [List.mem_cons, List.not_mem_nil, or_false] at he
    rcases he with rfl | rfl | rfl | rfl | rfl
    · exact ver_same s17 (by omega) (by simp)
    · exact ver_same s15 (by omega) (by simp)
    · exact ver_same s12 (by omega) (by simp)
    · exact ver_same s11 (by omega) (by simp)
    · exact ver_same s10 (by omega) (by simp)
  have bb : ∀ b : Bool, (b == b) = true := fun b => by simp
  have bi : ∀ b : Int, (b == b) = true := fun b => by simp
  refine ⟨N10, ?_⟩
  rw [P5_41_eq]
  rw [bLI a0, bLI a1, bLS a2, bX e1, bA3, bI0, bI1, bS2, bX e2, bT2, bG0, bA3, bI0, bI1, bS2, bG1, bB, bX w1]
  rw [bLI b0, bLI b1, bLS b2, bX e4, bT2, bG0, bA3, bI0, bI1, bS2, bG1, bB, bX w5]
  rw [bLI c0, bLI c1, bLS c2, bX e6, bA3, bI0, bI1, bS2, bX e7, bT2, bG0, bA3, bI0, bI1, bS2, bG1, bB, bX y1]
  rw [bLI d0, bLI d1, bLS d2, bX e9, bT2, bG0, bA3, bI0, bI1, bS2, bG1, bB, bX z1]
  rw [bLI f0, bLI f1, bLS f2, bX e10, bA3, bI0, bI1, bS2, bX e11, bA3, bI0, bI1, bS2, bX e12, bA3, bI0, bI1, bS2]
  rw [bLI h0, bLI h1, bLS h2, bX e13, bA3, bI0, bI1, bS2, bX e14, bB, ifT]
  rw [bLI i0, bLI i1, bLS i2, bX e15, bA3, bI0, bI1, bS2, bLI j0, bLI j1, bLS j2, bX e16, bB, ifT, if_pos (bb f)]
  rw [bLI m0, bLI m1, bLS m2, bX e17, bA3, bI0, bI1, bS2, bLI n0, bLI n1, bLS n2, bX e18, bB, ifT, if_pos (bb g)]
  rw [bX l1, bI, bX l2, bI, if_pos (bi _), bX aw, bB, if_pos (hck _)]

theorem encT_ld' {M : AMem} {a : Nat} {A : List Tp} (h : Rd M a (A.flatMap encT)) {i : Nat} {t : Tp} (hi : A[i]? = some t) :
    M.ld a (i * 3) = some (.int .i64 (t.W : Int)) ∧ M.ld a (i * 3 + 1) = some (.int .i64 (t.H : Int)) ∧ M.ld a (i * 3 + 2) = some (.slice t.p t.l.length t.c) := by
  refine ⟨?_, ?_, ?_⟩
  · have := flat_get encT_length A i 0 t hi (by omega)
    rw [Nat.add_zero] at this
    rw [h.ld, this]; rfl
  · rw [h.ld, flat_get encT_length A i 1 t hi (by omega)]; rfl
  · rw [h.ld, flat_get encT_length A i 2 t hi (by omega)]; rfl

theorem mt_24 {W H x y w h : Int} {x5 a b oc oc' : Nat} {p : Option Addr} {cp : Nat} {l : List Px} (hl : l.length ≤ 40) {A B : List Tp} (hAB : A.map Tp.pic = B.map Tp.pic) (hA : A.length ≤ 65536) (hsz : ∀ t ∈ A, t.l.length ≤ 65536) :
    ∀ (d i : Nat) (M : AMem), i + d = A.length → IsPic M x5 W H p cp l → Rd M a (A.flatMap encT) → Rd M b (B.flatMap encT) → (∀ t ∈ A, RdL M encP t.p t.l.length t.l) → (∀ t ∈ B, RdL M encP t.p t.l.length t.l) →
      ∃ M', P5_24 LL x y w h x5 (some ⟨a, 0, none⟩) A.length oc (some ⟨b, 0, none⟩) B.length oc' (i : Int) M = some (.bool true, M') := by
  have hn : A.length = B.length := by
    have := congrArg List.length hAB
    simpa using this
  intro d
  induction d with
  | zero =>
    intro i M hi hpc ha hb pa pb
    obtain rfl : i = A.length := by omega
    obtain ⟨M', hM'⟩ := mt_41 (x := x) (y := y) (w := w) (h := h) hl hpc
    refine ⟨M', ?_⟩
    rw [P5_24_eq LL L_loop, ifDn (show ¬ ((A.length : Int) < Int.ofNat A.length) by rw [ofN]; omega)]
    exact hM'
  | succ d ih =>
    intro i M hi hpc ha hb pa pb
    have hiA : i < A.length := by omega
    obtain ⟨s, hs⟩ : ∃ s, A[i]? = some s := ⟨_, List.getElem?_eq_getElem hiA⟩
    obtain ⟨t, ht⟩ : ∃ t, B[i]? = some t := ⟨_, List.getElem?_eq_getElem (by omega)⟩
    have hst : s.pic = t.pic := by
      have h1 := congrArg (fun L => L[i]?) hAB
      simp only [List.getElem?_map, hs, ht, Option.map_some, Option.some.injEq] at h1
      exact h1
    have e1 : s.W = t.W := congrArg Prod.fst hst
    have e2 : s.H = t.H := congrArg (fun q => q.2.1) hst
    have e3 : s.l = t.l := congrArg (fun q => q.2.2) hst
    obtain ⟨f0, f1, f2⟩ := encT_ld' ha hs
    obtain ⟨M1, k1, s1⟩ := back51_spec (s.W : Int) (s.H : Int) s.p s.l.length s.c M
    unfold picV at k1
    obtain ⟨g0, g1, g2⟩ := encT_ld' (hb.same s1 (by simp)) ht
    rw [← e1] at g0
    rw [← e2] at g1
    rw [← e3] at g2
    have ps := pa s (List.mem_of_getElem? hs)
    have pt := pb t (List.mem_of_getElem? ht)
    rw [← e3] at pt
    have hsl := hsz s (List.mem_of_getElem? hs)
    obtain ⟨M2, k2, s2⟩ := same_u (W := (s.W : Int)) (H := (s.H : Int)) (c := s.c) (d := t.c) (by omega) (ps.same s1 (by simp)) (pt.same s1 (by simp))
    have t2 : Same M M2 [] := (s1.trans s2).mono (by simp)
    obtain ⟨M', r⟩ := ih (i + 1) M2 (by omega) (hpc.st t2) (ha.same t2 (by simp)) (hb.same t2 (by simp)) (fun z hz => (pa z hz).same t2 (by simp)) (fun z hz => (pb z hz).same t2 (by simp))
    refine ⟨M', ?_⟩
    have q1 : (0 : Int) ≤ (i : Int) ∧ (i : Int) < Int.ofNat A.length := by rw [ofN]; omega
    have q2 : (0 : Int) ≤ (i : Int) ∧ (i : Int) < Int.ofNat B.length := by rw [ofN]; omega
    have hck : chkOk [(8, 4)] [(8, b)] [(4, (M, M1))] = true := by
      simp [chkOk, List.lookup, ver_same s1 hb.lt (by simp)]
    have hwi : IntKind.wrap .i64 ((i : Int) + 1) = ((i + 1 : Nat) : Int) := by rw [w64 (by omega)]; rfl
    rw [P5_24_eq LL L_loop, ifD q1.2]
    simp only [↓if_pos q1, Int.toNat_natCast, Nat.zero_add, ↓bLI f0, ↓bLI f1, ↓bLS f2, ↓bX k1, ↓bA3, ↓bI0, ↓bI1, ↓bS2, ↓if_pos q2, ↓bLI g0, ↓bLI g1, ↓bLS g2, ↓bX k2, ↓bB, ↓if_pos hck, ↓ifNT, P5_40_eq, hwi]
    exact r

theorem pyr_len : ∀ (n W H : Nat) (l : List Px), W + H ≤ n → W ≤ 256 → H ≤ 256 → l.length ≤ 65536 → ∀ q ∈ pyr W H l, q.2.2.length ≤ 65536 := by
  intro n
  induction n with
  | zero =>
    intro W H l hn bW bH hl q hq
    rw [pyr_eq, if_neg (by omega)] at hq
    obtain rfl := List.mem_singleton.1 hq
    exact hl
  | succ n ih =>
    intro W H l hn bW bH hl q hq
    rw [pyr_eq] at hq
    rcases List.mem_cons.1 hq with rfl | hq
    · exact hl
    · by_cases hm : 1 < W ∨ 1 < H
      · rw [if_pos hm] at hq
        refine ih (hf W) (hf H) (halfL W H l) (by unfold hf; omega) (by unfold hf; omega) (by unfold hf; omega) ?_ q hq
        simp only [halfL, tab_length]
        exact (Nat.mul_le_mul (show hf W ≤ 256 by unfold hf; omega) (show hf H ≤ 256 by unfold hf; omega) : hf W * hf H ≤ 256 * 256)
      · rw [if_neg hm] at hq; simp at hq

theorem mtells51 (M : AMem) (W H x y w h : Int) (p : Option Addr) (cp : Nat) (l : List Px) (hl : l.length ≤ 9223372036854775807) (hp : RdL M encP p l.length l) :
    ∃ M', LL.call 5 [picV W H p l.length cp, .int .i64 x, .int .i64 y, .int .i64 w, .int .i64 h] M = some (.bool true, M') := by
  rw [L_call5]
  unfold picV
  rw [E5]
  obtain ⟨_, aw⟩ := awake51
  have g0 := cells_new M [.int .i64 W, .int .i64 H, .slice p l.length cp] 0
  have s0 := same_app M [AObj.cells [.int .i64 W, .int .i64 H, .slice p l.length cp] ⟨false, 0⟩]
  generalize hM0 : M ++ [AObj.cells [.int .i64 W, .int .i64 H, .slice p l.length cp] ⟨false, 0⟩] = M0 at g0 s0
  have a : IsPic M0 M.length W H p cp l := ⟨g0.rd, hp.same s0 (by simp)⟩
  obtain ⟨a0, a1, a2⟩ := picV_ld a.hd
  by_cases h40 : Int.ofNat l.length > 40
  · exact ⟨M0, by simp only [↓bLS a2, ↓ifD h40, ↓bX aw, ↓bB]⟩
  have hl40 : l.length ≤ 40 := by rw [ofN] at h40; omega
  obtain ⟨M1, e1, s1⟩ := of51_spec W H p l.length cp M0
  unfold picV at e1
  have hP := pyramid_spec (W := W) (H := H) (cp := cp) hl (a.st s1).px
  by_cases hf' : PFit W H l
  · obtain ⟨M2, o, oc, A, e2, o2, q2, m2, s2⟩ := hP.1 hf'
    unfold picV at e2
    have t2 : Same M0 M2 [] := (s1.trans s2).mono (by simp)
    obtain ⟨b0, b1, b2⟩ := picV_ld (a.st t2).hd
    obtain ⟨M3, o', oc', B, e3, o3, q3, m3, s3⟩ := (rpyramid_spec (W := W) (H := H) (cp := cp) hl (a.st t2).px).1 hf'
    unfold picV at e3
    have hAB : A.map Tp.pic = B.map Tp.pic := by rw [m2, m3]
    have hn : A.length = B.length := by
      have := congrArg List.length hAB
      simpa using this
    have bW := hf'.2.1
    have bH := hf'.2.2.1
    have hlA : A.length = lev W.toNat H.toNat := by rw [← List.length_map (f := Tp.pic), m2, pyr_length]
    have hlev : lev W.toNat H.toNat = 1 + blen (max W.toNat H.toNat - 1) := lev_blen _ _ (by omega) (by omega)
    have hble : blen (max W.toNat H.toNat - 1) ≤ 8 := blen_le (by omega)
    obtain ⟨z, rfl, hz⟩ := o2.pos (by omega)
    obtain ⟨z', rfl, hz'⟩ := o3.pos (by omega)
    have hsz : ∀ t ∈ A, t.l.length ≤ 65536 := fun t ht => by
      refine pyr_len (W.toNat + H.toNat) W.toNat H.toNat l (Nat.le_refl _) (by omega) (by omega) (by omega) t.pic ?_
      rw [← m2]; exact List.mem_map_of_mem ht
    obtain ⟨M', r⟩ := mt_24 (x := x) (y := y) (w := w) (h := h) (oc := oc) (oc' := oc') hl40 hAB (by omega) hsz A.length 0 M3 (by omega) ((a.st t2).st s3) (hz.rd.same s3 (by simp)) hz'.rd (fun t ht => (q2 t ht).same s3 (by simp)) q3
    have hck : chkOk [(3, 1), (3, 2)] [(3, M.length)] [(2, (M1, M2)), (1, (M0, M1))] = true := by
      have v1 := ver_same s1 a.lt (by simp)
      have v2 := ver_same s2 (a.st s1).lt (by simp)
      simp [chkOk, List.lookup, v1, v2]
    have hne : (Int.ofNat A.length != Int.ofNat B.length) = false := by rw [hn]; simp
    refine ⟨M', ?_⟩
    simp only [↓bLS a2, ↓ifDn h40, ↓bLI a0, ↓bLI a1, ↓bX e1, ↓bA3, ↓bI0, ↓bI1, ↓bS2, ↓bX e2, ↓bS, ↓bLI b0, ↓bLI b1, ↓bLS b2, ↓bX e3, ↓if_pos hck, hne, ↓ifF]
    exact r
  · obtain ⟨M2, e2, s2⟩ := hP.2 hf'
    unfold picV at e2
    have t2 : Same M0 M2 [] := (s1.trans s2).mono (by simp)
    obtain ⟨b0, b1, b2⟩ := picV_ld (a.st t2).hd
    obtain ⟨M3, e3, s3⟩ := (rpyramid_spec (W := W) (H := H) (cp := cp) hl (a.st t2).px).2 hf'
    unfold picV at e3
    obtain ⟨M', r⟩ := mt_41 (x := x) (y := y) (w := w) (h := h) hl40 ((a.st t2).st s3)
    have hck : chkOk [(3, 1), (3, 2)] [(3, M.length)] [(2, (M1, M2)), (1, (M0, M1))] = true := by
      have v1 := ver_same s1 a.lt (by simp)
      have v2 := ver_same s2 (a.st s1).lt (by simp)
      simp [chkOk, List.lookup, v1, v2]
    have hne : (Int.ofNat 0 != Int.ofNat 0) = false := rfl
    refine ⟨M', ?_⟩
    simp only [↓bLS a2, ↓ifDn h40, ↓bLI a0, ↓bLI a1, ↓bX e1, ↓bA3, ↓bI0, ↓bI1, ↓bS2, ↓bX e2, ↓bS, ↓bLI b0, ↓bLI b1, ↓bLS b2, ↓bX e3, ↓if_pos hck, hne, ↓ifF]
    rw [P5_24_eq LL L_loop, ifDn (show ¬ ((0 : Int) < Int.ofNat 0) by decide)]
    exact r

end Go.Proofs.Ytncfdkmhpnopiaa
