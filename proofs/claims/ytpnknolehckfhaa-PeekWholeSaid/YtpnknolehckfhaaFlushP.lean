/- What a flush's functions answer: Left, Done, Begun, Lost, Step. -/
import Derived.Test.YtpnknolehckfhaaEqFlush
import Derived.Test.YtpnknolehckfhaaCell
import Derived.Test.YtpnknolehckfhaaLayout
import Derived.Test.YtpnknolehckfhaaAxD
set_option linter.unusedVariables false
set_option linter.unusedSimpArgs false
namespace Go.Proofs.Ytpnknolehckfhaa
open Go Go.Ax

def encA (a : Int × Int) : List Value := [.int .i64 a.1, .int .u64 a.2]
theorem encA_length (a : Int × Int) : (encA a).length = 2 := rfl

/-- What stands in a flush. -/
structure FS where
  size : Int
  adds : List (Int × Int)
  nx : Nat
  rd : Bool
  seen : Int
  lost : Nat

structure IsFl (M : AMem) (f : Nat) (p : Option Addr) (c : Nat) (s : FS) : Prop where
  hd : Cells M f [.int .i64 s.size, .slice p s.adds.length c, .int .i64 (s.nx : Int), .bool s.rd, .int .u64 s.seen, .int .i64 (s.lost : Int)]
  ad : RdL M encA p s.adds.length s.adds
  ne : ∀ b ∈ blk p, b ≠ f
  nx : s.nx ≤ s.adds.length
  sz : s.adds.length ≤ 1000000

theorem IsFl.same {M M' : AMem} {S : List Nat} {f : Nat} {p : Option Addr} {c : Nat} {s : FS} (h : IsFl M f p c s) (k : Same M M' S) (hf : f ∉ S) (hp : ∀ b ∈ blk p, b ∉ S) : IsFl M' f p c s :=
  ⟨h.hd.same k hf, h.ad.same k hp, h.ne, h.nx, h.sz⟩

theorem IsFl.ld {M : AMem} {f : Nat} {p : Option Addr} {c : Nat} {s : FS} (h : IsFl M f p c s) : M.ld f 0 = some (.int .i64 s.size) ∧ M.ld f 1 = some (.slice p s.adds.length c) ∧ M.ld f 2 = some (.int .i64 (s.nx : Int)) ∧ M.ld f 3 = some (.bool s.rd) ∧ M.ld f 4 = some (.int .u64 s.seen) ∧ M.ld f 5 = some (.int .i64 (s.lost : Int)) :=
  ⟨h.hd.ld 0, h.hd.ld 1, h.hd.ld 2, h.hd.ld 3, h.hd.ld 4, h.hd.ld 5⟩

theorem left_spec {M : AMem} {f : Nat} {p : Option Addr} {c : Nat} {s : FS} (h : IsFl M f p c s) : LL.call 45 [pt f] M = some (.int .i64 ((s.adds.length - s.nx : Nat) : Int), M) := by
  rw [L_call45, E45]
  obtain ⟨_, h1, h2, _, _, _⟩ := h.ld
  have hn := h.nx
  have hs := h.sz
  have e : IntKind.wrap .i64 (Int.ofNat s.adds.length - (s.nx : Int)) = ((s.adds.length - s.nx : Nat) : Int) := by rw [ofN, w64 (by omega)]; omega
  simp only [Option.isNone_some, Bool.false_eq_true, if_false, Nat.zero_add, ↓bLS h1, ↓bLI h2, e]

theorem left_nil (M : AMem) : LL.call 45 [.pointer none] M = some (.int .i64 0, M) := by
  rw [L_call45, E45]
  simp

theorem done_spec {M : AMem} {f : Nat} {p : Option Addr} {c : Nat} {s : FS} (h : IsFl M f p c s) : LL.call 33 [pt f] M = some (.bool (decide (s.adds.length = s.nx)), M) := by
  rw [L_call33, E33]
  have hn := h.nx
  rw [bX (left_spec h), bI]
  congr 3
  by_cases e : s.adds.length = s.nx
  · simp [e]
  · rw [decide_eq_false e]; simp; omega

theorem begun_spec' {M : AMem} {f : Nat} {p : Option Addr} {c : Nat} {s : FS} (h : IsFl M f p c s) : LL.call 32 [pt f] M = some (.bool (decide (0 < s.nx)), M) := by
  rw [L_call32, E32]
  obtain ⟨_, _, h2, _, _, _⟩ := h.ld
  simp only [Option.isNone_some, Bool.not_false, if_true, Nat.zero_add, ↓bLI h2]
  congr 3
  by_cases e : 0 < s.nx <;> simp [e]

theorem add_ld {M : AMem} {a : Nat} {l : List (Int × Int)} (h : Rd M a (l.flatMap encA)) {i : Nat} {x : Int × Int} (hi : l[i]? = some x) : M.ld a (i * 2) = some (.int .i64 x.1) ∧ M.ld a (i * 2 + 1) = some (.int .u64 x.2) := by
  refine ⟨?_, ?_⟩
  · have := flat_get encA_length l i 0 x hi (by omega)
    rw [Nat.add_zero] at this
    rw [h.ld, this]; rfl
  · rw [h.ld, flat_get encA_length l i 1 x hi (by omega)]; rfl

/-- A step over: it told false. -/
theorem step_over {M : AMem} {f b a : Nat} {p : Option Addr} {c : Nat} {s : FS} {L : List Int} {st wi : Nat} (h : IsFl M f p c s) (hm : IsMem M b a L st wi) (ho : s.adds.length = s.nx ∨ (L.length : Int) ≠ s.size) :
    LL.call 18 [pt f, pt b] M = some (.bool false, M) := by
  rw [L_call18, E18]
  obtain ⟨h0, _⟩ := h.ld
  have hn := h.nx
  rw [bX (left_spec h), bI]
  by_cases e : s.adds.length = s.nx
  · have k : (((s.adds.length - s.nx : Nat) : Int) == 0) = true := by rw [e]; simp
    rw [k, ifT]
  · have k : (((s.adds.length - s.nx : Nat) : Int) == 0) = false := beq_eq_false_iff_ne.2 (by omega)
    have hne : ((L.length : Int) != s.size) = true := by simp [ho.resolve_left e]
    rw [k, ifF, bX (len_spec hm), bI]
    simp only [↓bLI h0]
    rw [if_pos (by simp [chkOk, List.lookup]), hne, ifT]

/-- It reads. -/
theorem step_read {M : AMem} {f b a : Nat} {p : Option Addr} {c : Nat} {s : FS} {L : List Int} {st wi : Nat} (h : IsFl M f p c s) (hm : IsMem M b a L st wi) (hst : st < 1000000000000000000) (hd : f ≠ b ∧ f ≠ a ∧ ∀ x ∈ blk p, x ≠ b ∧ x ≠ a) {x : Int × Int} (hx : s.adds[s.nx]? = some x) (hsz : (L.length : Int) = s.size) (hr : s.rd = false) :
    ∃ M', LL.call 18 [pt f, pt b] M = some (.bool true, M') ∧ IsFl M' f p c { s with rd := decide (inR L x.1), seen := getI L x.1 } ∧ IsMem M' b a L (st + 1) wi ∧ Same M M' [f, b] := by
  rw [L_call18, E18]
  have hlt := (List.getElem?_eq_some_iff.1 hx).1
  have hs := h.sz
  obtain ⟨z, rfl, hz⟩ := h.ad.2 (by omega)
  obtain ⟨h0, h1, h2, h3, h4, h5⟩ := h.ld
  obtain ⟨e0, e1⟩ := add_ld hz hx
  have k : (((s.adds.length - s.nx : Nat) : Int) == 0) = false := beq_eq_false_iff_ne.2 (by omega)
  have hne : ((L.length : Int) != s.size) = false := by simp [hsz]
  have hg : (0 : Int) ≤ (s.nx : Int) ∧ (s.nx : Int) < Int.ofNat s.adds.length := by rw [ofN]; omega
  have s1 := same_app M [AObj.cells [.int .i64 0, .int .u64 0] ⟨false, 0⟩]
  have g1 := cells_new M [.int .i64 0, .int .u64 0] 0
  obtain ⟨M1, w1, w2, w3, w4⟩ := g1.wr (o := 0) (vs := [.int .i64 x.1, .int .u64 x.2]) (by simp)
  have w2' : Cells M1 M.length [.int .i64 x.1, .int .u64 x.2] := by simpa [wrL] using w2
  have t1 : Same M M1 [] := (s1.trans w3).mono' (by simp)
  have hf1 := h.same t1 (by simp) (by simp)
  have hm1 := hm.same t1 (by simp) (by simp)
  obtain ⟨_, _, _, h3', _, _⟩ := hf1.ld
  rw [hr] at h3'
  have y0 : M1.ld M.length 0 = some (.int .i64 x.1) := w2'.ld 0
  obtain ⟨M2, k1, k2, k3⟩ := load_spec hm1 hst x.1
  have hfl := h.hd.lt
  have hf2 := hf1.same k3 (by simp; exact hd.1) (fun y hy => by simp; exact (hd.2.2 y hy).1)
  obtain ⟨M3, y1, y2, y3, y4⟩ := hf2.hd.wr (o := 4) (vs := [.int .u64 (getI L x.1)]) (by simp)
  obtain ⟨M4, y5, y6, y7, y8⟩ := y2.wr (o := 3) (vs := [.bool (decide (inR L x.1))]) (by simp [wrL])
  have t24 : Same M2 M4 [f] := (y3.trans y7).mono (by simp)
  have hchk : chkOk [(3, 10), (7, 10), (9, 10)] [(9, z), (7, f), (3, f)] [(10, (M, M ++ [AObj.cells [.int .i64 0, .int .u64 0] ⟨false, 0⟩]))] = true := by
    simp [chkOk, List.lookup, ver_same s1 hfl (by simp), ver_same s1 hz.lt (by simp)]
  refine ⟨M4, ?_, ⟨by simpa [wrL] using y6, hf2.ad.same t24 (fun y hy => by simp; exact h.ne y hy), h.ne, h.nx, h.sz⟩, k2.same t24 (by simp; exact Ne.symm hd.1) (by simp; exact Ne.symm hd.2.1), ((t1.trans k3).trans t24).mono (by simp)⟩
  rw [bX (left_spec h), bI, k, ifF, bX (len_spec hm), bI]
  simp only [↓bLI h0]
  rw [if_pos (by simp [chkOk, List.lookup]), hne, ifF]
  simp only [Nat.zero_add, ↓bLS h1, ↓bLI h2, ↓if_pos hg, Int.toNat_natCast, ↓bLI e0, ↓bLI e1, ↓bX w1, ↓if_pos hchk, ↓bLB h3', ↓ifNF, ↓bLI y0, ↓bX k1, ↓bT2, ↓bG0, ↓bG1, ↓bI, ↓bB, ↓bX y1, ↓bX y5]

/-- It exchanges. -/
theorem step_cas {M : AMem} {f b a : Nat} {p : Option Addr} {c : Nat} {s : FS} {L : List Int} {st wi : Nat} (h : IsFl M f p c s) (hm : IsMem M b a L st wi) (hst : st < 1000000000000000000) (hwi : wi < 1000000000000000000) (hlo : s.lost < 1000000000000000000) (hd : f ≠ b ∧ f ≠ a ∧ ∀ x ∈ blk p, x ≠ b ∧ x ≠ a) {x : Int × Int} (hx : s.adds[s.nx]? = some x) (hsz : (L.length : Int) = s.size) (hr : s.rd = true) :
    ∃ M', LL.call 18 [pt f, pt b] M = some (.bool true, M') ∧ IsFl M' f p c (if casB L x.1 s.seen then { s with rd := false, nx := s.nx + 1 } else { s with rd := false, lost := s.lost + 1 }) ∧
      IsMem M' b a (casL L x.1 s.seen (IntKind.wrap .u64 (s.seen + x.2))) (st + 1) (if casB L x.1 s.seen then wi + 1 else wi) ∧ Same M M' [f, b, a] := by
  rw [L_call18, E18]
  have hlt := (List.getElem?_eq_some_iff.1 hx).1
  have hs := h.sz
  obtain ⟨z, rfl, hz⟩ := h.ad.2 (by omega)
  obtain ⟨h0, h1, h2, h3, h4, h5⟩ := h.ld
  obtain ⟨e0, e1⟩ := add_ld hz hx
  have k : (((s.adds.length - s.nx : Nat) : Int) == 0) = false := beq_eq_false_iff_ne.2 (by omega)
  have hne : ((L.length : Int) != s.size) = false := by simp [hsz]
  have hg : (0 : Int) ≤ (s.nx : Int) ∧ (s.nx : Int) < Int.ofNat s.adds.length := by rw [ofN]; omega
  have s1 := same_app M [AObj.cells [.int .i64 0, .int .u64 0] ⟨false, 0⟩]
  have g1 := cells_new M [.int .i64 0, .int .u64 0] 0
  obtain ⟨M1, w1, w2, w3, w4⟩ := g1.wr (o := 0) (vs := [.int .i64 x.1, .int .u64 x.2]) (by simp)
  have w2' : Cells M1 M.length [.int .i64 x.1, .int .u64 x.2] := by simpa [wrL] using w2
  have t1 : Same M M1 [] := (s1.trans w3).mono' (by simp)
  have hf1 := h.same t1 (by simp) (by simp)
  have hm1 := hm.same t1 (by simp) (by simp)
  obtain ⟨_, _, _, h3', _, _⟩ := hf1.ld
  rw [hr] at h3'
  have hfl := h.hd.lt
  have hchk : chkOk [(3, 10), (7, 10), (9, 10)] [(9, z), (7, f), (3, f)] [(10, (M, M ++ [AObj.cells [.int .i64 0, .int .u64 0] ⟨false, 0⟩]))] = true := by
    simp [chkOk, List.lookup, ver_same s1 hfl (by simp), ver_same s1 hz.lt (by simp)]
  obtain ⟨M2, y1, y2, y3, y4⟩ := hf1.hd.wr (o := 3) (vs := [.bool false]) (by simp)
  have y2' : Cells M2 f [.int .i64 s.size, .slice (some ⟨z, 0, none⟩) s.adds.length c, .int .i64 (s.nx : Int), .bool false, .int .u64 s.seen, .int .i64 (s.lost : Int)] := by simpa [wrL] using y2
  have hm2 := hm1.same y3 (by simp; exact Ne.symm hd.1) (by simp; exact Ne.symm hd.2.1)
  have x2 := w2'.same y3 (by simp; omega)
  have u0 : M2.ld M.length 0 = some (.int .i64 x.1) := x2.ld 0
  have u1 : M2.ld M.length 1 = some (.int .u64 x.2) := x2.ld 1
  have u4 : M2.ld f 4 = some (.int .u64 s.seen) := y2'.ld 4
  obtain ⟨M3, k1, k2, k3⟩ := cas_spec hm2 hst hwi x.1 s.seen (IntKind.wrap .u64 (s.seen + x.2))
  have f3 := y2'.same k3 (by simp; exact ⟨hd.1, hd.2.1⟩)
  have a2 : RdL M2 encA (some ⟨z, 0, none⟩) s.adds.length s.adds := hf1.ad.same y3 (fun y hy => by simp; exact h.ne y hy)
  have a3 := a2.same k3 (fun y hy => by simp; exact ⟨(hd.2.2 y hy).1, (hd.2.2 y hy).2⟩)
  have t3 : Same M M3 [f, b, a] := ((t1.trans y3).trans k3).mono (by simp)
  cases hc : casB L x.1 s.seen with
  | true =>
    rw [hc] at k1
    have v2 : M3.ld f 2 = some (.int .i64 (s.nx : Int)) := f3.ld 2
    obtain ⟨M4, z1, z2, z3, z4⟩ := f3.wr (o := 2) (vs := [.int .i64 ((s.nx + 1 : Nat) : Int)]) (by simp)
    have wn : IntKind.wrap .i64 ((s.nx : Int) + 1) = ((s.nx + 1 : Nat) : Int) := by rw [w64 (by omega)]; rfl
    refine ⟨M4, ?_, ?_, ?_, (t3.trans z3).mono (by simp)⟩
    · rw [bX (left_spec h), bI, k, ifF, bX (len_spec hm), bI]
      simp only [↓bLI h0]
      rw [if_pos (by simp [chkOk, List.lookup]), hne, ifF]
      simp only [Nat.zero_add, ↓bLS h1, ↓bLI h2, ↓if_pos hg, Int.toNat_natCast, ↓bLI e0, ↓bLI e1, ↓bX w1, ↓if_pos hchk, ↓bLB h3', ↓ifNT, ↓bX y1, ↓bLI u0, ↓bLI u4, ↓bLI u1, ↓bX k1, ↓bB, ↓ifT, ↓bLI v2, wn, ↓bX z1]
    · simp only [if_true]
      exact ⟨by simpa [wrL] using z2, a3.same z3 (fun y hy => by simp; exact h.ne y hy), h.ne, by simp only; omega, h.sz⟩
    · rw [hc] at k2
      exact k2.same z3 (by simp; exact Ne.symm hd.1) (by simp; exact Ne.symm hd.2.1)
  | false =>
    rw [hc] at k1
    have v5 : M3.ld f 5 = some (.int .i64 (s.lost : Int)) := f3.ld 5
    obtain ⟨M4, z1, z2, z3, z4⟩ := f3.wr (o := 5) (vs := [.int .i64 ((s.lost + 1 : Nat) : Int)]) (by simp)
    have wn : IntKind.wrap .i64 ((s.lost : Int) + 1) = ((s.lost + 1 : Nat) : Int) := by rw [w64 (by omega)]; rfl
    refine ⟨M4, ?_, ?_, ?_, (t3.trans z3).mono (by simp)⟩
    · rw [bX (left_spec h), bI, k, ifF, bX (len_spec hm), bI]
      simp only [↓bLI h0]
      rw [if_pos (by simp [chkOk, List.lookup]), hne, ifF]
      simp only [Nat.zero_add, ↓bLS h1, ↓bLI h2, ↓if_pos hg, Int.toNat_natCast, ↓bLI e0, ↓bLI e1, ↓bX w1, ↓if_pos hchk, ↓bLB h3', ↓ifNT, ↓bX y1, ↓bLI u0, ↓bLI u4, ↓bLI u1, ↓bX k1, ↓bB, ↓ifF, ↓bLI v5, wn, ↓bX z1, P18_36_eq]
    · simp only [Bool.false_eq_true, if_false]
      exact ⟨by simpa [wrL] using z2, a3.same z3 (fun y hy => by simp; exact h.ne y hy), h.ne, h.nx, h.sz⟩
    · rw [hc] at k2
      exact k2.same z3 (by simp; exact Ne.symm hd.1) (by simp; exact Ne.symm hd.2.1)

end Go.Proofs.Ytpnknolehckfhaa
