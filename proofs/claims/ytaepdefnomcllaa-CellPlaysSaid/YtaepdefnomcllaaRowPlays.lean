/- CellPlays: whatever is asked of a memory, the law answers true, and each argument reads as it did. No condition. -/
import Derived.Test.YtaepdefnomcllaaRows
import Derived.Test.YtaepdefnomcllaaLaw30
set_option linter.unusedVariables false
set_option linter.unusedSimpArgs false
namespace Go.Proofs.Ytaepdefnomcllaa
open Go Go.Ax

/-! #### a memory that is not there, and one that was not made -/

theorem at_nil (i : Int) (M : AMem) : LL.call 51 [.pointer none, .int .i64 i] M = some (.pointer none, M) := by
  rw [L_call51, E51]; simp
theorem load_nil (i : Int) (M : AMem) : LL.call 27 [.pointer none, .int .i64 i] M = some (.tuple #[.int .u64 0, .bool false], M) := by
  rw [L_call27, E27]; simp [at_nil]
theorem cas_nil (i o t : Int) (M : AMem) : LL.call 28 [.pointer none, .int .i64 i, .int .u64 o, .int .u64 t] M = some (.bool false, M) := by
  rw [L_call28, E28]; simp [at_nil]
theorem len_nil (M : AMem) : LL.call 32 [.pointer none] M = some (.int .i64 0, M) := by
  rw [L_call32, E32]; simp
theorem steps_nil (M : AMem) : LL.call 30 [.pointer none] M = some (.int .i64 0, M) := by
  rw [L_call30, E30]; simp
theorem wins_nil (M : AMem) : LL.call 31 [.pointer none] M = some (.int .i64 0, M) := by
  rw [L_call31, E31]; simp
theorem cells_nil (n : Int) (M : AMem) : LL.call 33 [.pointer none, .int .i64 0, .int .i64 n] M = some (.slice none 0 0, M) := by
  rw [L_call33, E33]
  simp only [len_nil, Option.bind_some, intOf_int]
  by_cases h : n < 0 <;> simp [h]

def Plain (M : AMem) (b : Nat) : Prop := Cells M b [.bool false, .slice none 0 0, .int .i64 0, .int .i64 0]

section
variable {M : AMem} {b : Nat} (h : Plain M b)
include h
theorem at_plain (i : Int) : LL.call 51 [pt b, .int .i64 i] M = some (.pointer none, M) := by
  rw [L_call51, E51]; simp [Cells.ld h]
theorem load_plain (i : Int) : LL.call 27 [pt b, .int .i64 i] M = some (.tuple #[.int .u64 0, .bool false], M) := by
  rw [L_call27, E27]; simp [at_plain h]
theorem cas_plain (i o t : Int) : LL.call 28 [pt b, .int .i64 i, .int .u64 o, .int .u64 t] M = some (.bool false, M) := by
  rw [L_call28, E28]; simp [at_plain h]
theorem len_plain : LL.call 32 [pt b] M = some (.int .i64 0, M) := by
  rw [L_call32, E32]; simp [Cells.ld h]
theorem steps_plain : LL.call 30 [pt b] M = some (.int .i64 0, M) := by
  rw [L_call30, E30]; simp [Cells.ld h]
theorem wins_plain : LL.call 31 [pt b] M = some (.int .i64 0, M) := by
  rw [L_call31, E31]; simp [Cells.ld h]
theorem cells_plain (n : Int) : LL.call 33 [pt b, .int .i64 0, .int .i64 n] M = some (.slice none 0 0, M) := by
  rw [L_call33, E33]
  simp only [len_plain h, Option.bind_some, intOf_int]
  by_cases h : n < 0 <;> simp [h]
end

/-! #### the two memories side by side -/

abbrev St := Int × Int × Int × Int

def encS (s : St) : List Value := [.int .i64 s.1, .int .i64 s.2.1, .int .u64 s.2.2.1, .int .u64 s.2.2.2]
theorem encS_len (s : St) : (encS s).length = 4 := rfl

structure Two (M : AMem) (p : Option Addr) (l : List St) (b a r : Nat) (q : Option Addr) (qc : Nat) (L : List Int) (st wi : Nat) : Prop where
  mem : IsMem M b a L st wi
  ref : IsRef M r q qc L st wi
  arg : RdL M encS p l.length l
  d1 : b ≠ r ∧ a ≠ r ∧ b ∉ blk q ∧ a ∉ blk q
  d2 : ∀ x ∈ blk p, x ≠ b ∧ x ≠ a ∧ x ≠ r ∧ x ∉ blk q
  len : L.length ≤ 262144

theorem Two.new {M M' : AMem} {p : Option Addr} {l : List St} {b a r : Nat} {q : Option Addr} {qc : Nat} {L : List Int} {st wi : Nat} (h : Two M p l b a r q qc L st wi) (k : Same M M' []) : Two M' p l b a r q qc L st wi :=
  ⟨h.mem.same k (by simp) (by simp), h.ref.same k (by simp) (by simp), h.arg.same k (by simp), h.d1, h.d2, h.len⟩

theorem plays_step2 {M : AMem} {p : Option Addr} {l : List St} {b a r : Nat} {q : Option Addr} {qc : Nat} {L : List Int} {st wi : Nat} (h : Two M p l b a r q qc L st wi) (hst : st < 1000) (hwi : wi < 1000)
    (fr many : Int) (i s : Nat) (x : St) (hi : i ≤ 1000) (hs : Cells M s (encS x)) (hd : s ≠ b ∧ s ≠ a ∧ s ≠ r ∧ s ∉ blk q ∧ s ∉ blk p) :
    ∃ M' L' st' wi', P5_63 LL p l.length 0 fr many (some ⟨b, 0, none⟩) r i s M = P5_34 LL p l.length 0 fr many (some ⟨b, 0, none⟩) r ((i + 1 : Nat) : Int) M' ∧
      Two M' p l b a r q qc L' st' wi' ∧ L'.length = L.length ∧ st' ≤ st + 1 ∧ wi' ≤ wi + 1 := by
  obtain ⟨k, I, o, t⟩ := x
  have hw : IntKind.wrap .i64 ((i : Int) + 1) = ((i + 1 : Nat) : Int) := by rw [w64 (by omega)]; rfl
  rw [P5_63_eq]
  simp only [encS] at hs
  have hne := h.mem.ne
  by_cases hk : k > 0
  · obtain ⟨M1, h1, h2, h3⟩ := cas_spec h.mem (by omega) (by omega) I o t
    have hs1 := hs.same h3 (by simp; omega)
    obtain ⟨M2, h4, h5, h6⟩ := rcas_spec (h.ref.same h3 (by have := h.d1; simp; omega) (by have := h.d1; intro x hx; simp; exact ⟨fun e => this.2.2.1 (e ▸ hx), fun e => this.2.2.2 (e ▸ hx)⟩)) (by omega) (by omega) I o t
    have hv := ver_same h3 hs.lt (by simp; omega)
    have g1 := h2.same h6 (by have := h.d1; simp; exact ⟨this.1, this.2.2.1⟩) (by have := h.d1; simp; exact ⟨this.2.1, this.2.2.2⟩)
    have h7 := steps_spec g1
    have h8 := wins_spec g1
    refine ⟨M2, casL L I o t, st + 1, if casB L I o then wi + 1 else wi, ?_, ⟨g1, h5, (h.arg.same h3 ?_).same h6 ?_, h.d1, h.d2, by rw [casL_length]; exact h.len⟩, casL_length _ _ _ _, by omega, by split <;> omega⟩
    · simp [hs.ld, hk, h1, hs1.ld, h4, h7, h8, h5.hd.ld, chkOk, List.lookup, hv, P5_78_eq, hw]
    · intro x hx; have := h.d2 x hx; simp; omega
    · intro x hx; have := h.d2 x hx; simp; exact ⟨this.2.2.1, this.2.2.2⟩
  · have h7 := steps_spec h.mem
    have h8 := wins_spec h.mem
    refine ⟨M, L, st, wi, ?_, h, rfl, by omega, by omega⟩
    simp [hs.ld, hk, h7, h8, h.ref.hd.ld, chkOk, List.lookup, P5_78_eq, hw]

theorem plays_step1 {M : AMem} {p : Option Addr} {l : List St} {b a r : Nat} {q : Option Addr} {qc : Nat} {L : List Int} {st wi : Nat} (h : Two M p l b a r q qc L st wi) (hst : st < 900) (hwi : wi < 900)
    (fr many : Int) (i : Nat) (hi : i < l.length) (hi2 : i ≤ 1000) :
    ∃ M' L' st' wi', P5_34 LL p l.length 0 fr many (some ⟨b, 0, none⟩) r i M = P5_34 LL p l.length 0 fr many (some ⟨b, 0, none⟩) r ((i + 1 : Nat) : Int) M' ∧
      Two M' p l b a r q qc L' st' wi' ∧ L'.length = L.length ∧ st' ≤ st + 2 ∧ wi' ≤ wi + 1 := by
  obtain ⟨pa, rfl, ha⟩ := h.arg.2 (by omega)
  have hx := List.getElem?_eq_getElem hi
  generalize l[i] = x at hx
  have e0 := flat_get encS_len l i 0 x hx (by omega)
  have e1 := flat_get encS_len l i 1 x hx (by omega)
  have e2 := flat_get encS_len l i 2 x hx (by omega)
  have e3 := flat_get encS_len l i 3 x hx (by omega)
  obtain ⟨k, I, o, t⟩ := x
  simp only [encS, get0, get1, get2, get3, Nat.add_zero] at e0 e1 e2 e3
  have hlt : (i : Int) < Int.ofNat l.length := by rw [ofN]; omega
  have h0 : (0 : Int) ≤ (i : Int) := by omega
  have lb := h.mem.hd.lt
  have la := h.mem.cs.lt
  have lr := h.ref.hd.lt
  have lq := h.ref.cs.lt
  have lpa := ha.lt
  obtain ⟨M1, w1, w2, w3, _⟩ := (cells_new M [.int .i64 0, .int .i64 0, .int .u64 0, .int .u64 0] 0).wr (o := 0) (vs := encS (k, I, o, t)) (by simp [encS])
  have s1 : Same M M1 [] := ((same_app M _).trans w3).mono' (by simp)
  have w2' : Cells M1 M.length (encS (k, I, o, t)) := by simpa [wrL, encS] using w2
  have g1 := h.new s1
  obtain ⟨M2, r1, r2, r3⟩ := rload_spec g1.ref (by omega) I
  obtain ⟨M3, m1, m2, m3⟩ := load_spec (g1.mem.same r3 (by have := h.d1; simp; omega) (by have := h.d1; simp; omega)) (by omega) I
  have c2 := w2'.same r3 (by simp; omega)
  have c3 := c2.same m3 (by simp; omega)
  have g3 : Two M3 (some ⟨pa, 0, none⟩) l b a r q qc L (st + 1) wi := ⟨m2, r2.same m3 (by have := h.d1; simp; omega) (by have := h.d1; intro x hx; simp; exact fun e => this.2.2.1 (e ▸ hx)),
    (g1.arg.same r3 (by intro x hx; have := h.d2 x hx; simp; omega)).same m3 (by intro x hx; have := h.d2 x hx; simp; omega), h.d1, h.d2, h.len⟩
  have hd : M.length ≠ b ∧ M.length ≠ a ∧ M.length ≠ r ∧ M.length ∉ blk q ∧ M.length ∉ blk (some ⟨pa, 0, none⟩) :=
    ⟨by omega, by omega, by omega, fun hx => by have := lq _ hx; omega, by simp; omega⟩
  rw [P5_34_eq LL L_loop]
  simp only [encS] at w1 c2 c3
  by_cases hk : k = 2
  · subst hk
    obtain ⟨M4, y1, y2, y3, _⟩ := c3.wr (o := 2) (vs := [.int .u64 (getI L I)]) (by simp)
    simp only [wrL, List.set_cons_zero, List.set_cons_succ] at y2
    have g4 : Two M4 (some ⟨pa, 0, none⟩) l b a r q qc L (st + 1) wi := ⟨g3.mem.same y3 (by simp; omega) (by simp; omega), g3.ref.same y3 (by simp; omega) (fun x hx => by simp; intro e; exact hd.2.2.2.1 (e ▸ hx)), g3.arg.same y3 (by simp; omega), h.d1, h.d2, h.len⟩
    obtain ⟨M', L', st', wi', z1, z2, z3, z4, z5⟩ := plays_step2 g4 (by omega) (by omega) fr many i M.length (2, I, getI L I, t) hi2 y2 hd
    refine ⟨M', L', st', wi', ?_, z2, z3, by omega, by omega⟩
    rw [← z1]
    simp only [hlt, h0, decide_true, and_self, if_true, Nat.zero_add, Int.toNat_natCast, ha.ld, e0, e1, e2, e3, intOf_int, Option.bind_some, w1, w2'.ld, encS, get0, get1, get2, get3, r1, tup2, boolOf_bool, c2.ld, m1, bne_self_eq_false, Bool.false_eq_true, if_false, beq_self_eq_true, Bool.not_true, c3.ld, y1]
  · obtain ⟨M', L', st', wi', z1, z2, z3, z4, z5⟩ := plays_step2 g3 (by omega) (by omega) fr many i M.length (k, I, o, t) hi2 c3 hd
    refine ⟨M', L', st', wi', ?_, z2, z3, by omega, by omega⟩
    rw [← z1]
    have hk' : (k == 2) = false := by simpa using hk
    simp only [hlt, h0, decide_true, and_self, if_true, Nat.zero_add, Int.toNat_natCast, ha.ld, e0, e1, e2, e3, intOf_int, Option.bind_some, w1, w2'.ld, encS, get0, get1, get2, get3, r1, tup2, boolOf_bool, c2.ld, m1, bne_self_eq_false, Bool.false_eq_true, if_false, beq_self_eq_true, Bool.not_true, c3.ld, hk']

theorem plays_end {M : AMem} {p : Option Addr} {l : List St} {b a r : Nat} {q : Option Addr} {qc : Nat} {L : List Int} {st wi : Nat} (h : Two M p l b a r q qc L st wi) (hL : L.length ≤ 100)
    (fr many : Int) (hfr : -9223372036854775808 ≤ fr ∧ fr ≤ 9223372036854775807) : ∃ M', P5_79 LL fr many (some ⟨b, 0, none⟩) r M = some (.bool true, M') := by
  rw [P5_79_eq]
  obtain ⟨_, aw⟩ := awake30
  have hp : Plain (M ++ [AObj.cells [.bool false, .slice none 0 0, .int .i64 0, .int .i64 0] ⟨false, 0⟩]) M.length := cells_new _ _ _
  have s1 := same_app M [AObj.cells [.bool false, .slice none 0 0, .int .i64 0, .int .i64 0] ⟨false, 0⟩]
  have h1 := h.new s1
  generalize M ++ [AObj.cells [.bool false, .slice none 0 0, .int .i64 0, .int .i64 0] ⟨false, 0⟩] = M1 at hp s1 h1
  have z0 : (IntKind.wrap .i64 ((IntKind.wrap .i64 ((IntKind.wrap .i64 ((IntKind.wrap .i64 ((IntKind.wrap .i64 (0 + 0)) + 0)) + 0)) + 0)) + 0)) = 0 := by decide
  have z1 : IntKind.wrap .i64 (Int.ofNat 0 + Int.ofNat 0) = 0 := by decide
  have e1 := len_spec h1.mem
  obtain ⟨M2, p2, c2, k1, k2, k3, k4⟩ := cells_spec h1.mem h1.len 0 100
  have es : sub L 0 100 = L := by
    unfold sub
    rw [if_neg (by omega)]
    simp only [Int.toNat_zero, List.drop_zero]
    exact List.take_of_length_le (by omega)
  rw [es] at k1 k2
  have h2 := h1.new k3
  have k5 := same_spec (c := c2) (d := qc) (RdI.of_slc k2) (RdI.of_slc h2.ref.cs) (by have := h.len; omega)
  obtain ⟨M3, p3, c3, j1, j2, j3, j4⟩ := cells_spec h2.mem h1.len fr many
  have h3 := h2.new j3
  obtain ⟨M4, p4, c4, i1, i2, i3, i4⟩ := rcells_spec h3.ref h1.len fr many hfr
  have hsub : (sub L fr many).length ≤ 1000000000 := by
    unfold sub; have := h.len; split
    · simp
    · simp; omega
  have i5 := same_spec (c := c3) (d := c4) (RdI.of_slc (j2.same i3 (by simp))) (RdI.of_slc i2) hsub
  have hv := ver_same k3 h1.ref.hd.lt (by simp)
  simp only [load_nil, load_plain hp, cas_nil, cas_plain hp, len_nil, len_plain hp, steps_nil, steps_plain hp, wins_nil, wins_plain hp, cells_nil, cells_plain hp, Option.bind_some, tup2, get0, get1, intOf_int, boolOf_bool,
    sliceOf_slice, Bool.false_eq_true, if_false, z0, z1, bne_self_eq_false, e1, h1.ref.hd.ld, ofN, beq_self_eq_true, if_true, k1, h2.ref.hd.ld, k5, decide_true, j1, i1, i5, aw]
  have z2 : IntKind.wrap .i64 0 = 0 := by decide
  refine ⟨M4, ?_⟩
  simp [chkOk, List.lookup, hv, z2]

theorem plays_loop {p : Option Addr} {l : List St} {b a r : Nat} {q : Option Addr} {qc : Nat} (hl : l.length ≤ 60) (fr many : Int) (hfr : -9223372036854775808 ≤ fr ∧ fr ≤ 9223372036854775807) :
    ∀ (d i : Nat) (M : AMem) (L : List Int) (st wi : Nat), i + d = l.length → Two M p l b a r q qc L st wi → st ≤ 2 * i → wi ≤ i → L.length ≤ 100 →
    ∃ M', P5_34 LL p l.length 0 fr many (some ⟨b, 0, none⟩) r i M = some (.bool true, M') := by
  intro d
  induction d with
  | zero =>
    intro i M L st wi hi h h1 h2 h3
    obtain ⟨M', g⟩ := plays_end h h3 fr many hfr
    refine ⟨M', ?_⟩
    rw [P5_34_eq LL L_loop]
    have : ¬ ((i : Int) < Int.ofNat l.length) := by rw [ofN]; omega
    simp only [this, decide_false, Bool.false_eq_true, if_false]
    exact g
  | succ d ih =>
    intro i M L st wi hi h h1 h2 h3
    obtain ⟨M1, L', st', wi', g1, g2, g3, g4, g5⟩ := plays_step1 h (by omega) (by omega) fr many i (by omega) (by omega)
    obtain ⟨M', g⟩ := ih (i + 1) M1 L' st' wi' (by omega) g2 (by omega) (by omega) (by omega)
    exact ⟨M', by rw [g1, g]⟩

theorem plays (M : AMem) (n : Int) (p : Option Addr) (l : List St) (fr many : Int) (hp : RdL M encS p l.length l) (hfr : -9223372036854775808 ≤ fr ∧ fr ≤ 9223372036854775807) :
    ∃ M', LL.call 5 [.int .i64 n, .slice p l.length 0, .int .i64 fr, .int .i64 many] M = some (.bool true, M') := by
  rw [L_call5, E5]
  obtain ⟨_, aw⟩ := awake30
  by_cases c2 : Int.ofNat l.length > 60
  · by_cases c1 : n > 40
    · by_cases c3 : n ≤ 262144
      · simp only [c1, c3, decide_true, if_true, aw, Option.bind_some, boolOf_bool]; exact ⟨_, rfl⟩
      · simp only [c1, c2, c3, decide_true, decide_false, Bool.false_eq_true, if_false, if_true, aw, Option.bind_some, boolOf_bool]; exact ⟨_, rfl⟩
    · simp only [c1, c2, decide_true, decide_false, Bool.false_eq_true, if_false, if_true, aw, Option.bind_some, boolOf_bool]; exact ⟨_, rfl⟩
  · by_cases hz : 0 ≤ n ∧ n ≤ 262144
    · by_cases c1 : n > 40
      · simp only [c1, hz.2, decide_true, if_true, aw, Option.bind_some, boolOf_bool]; exact ⟨_, rfl⟩
      · obtain ⟨M1, b, a, h1, h2, h3, h4, h5, h6, h7⟩ := new_spec n M hz
        obtain ⟨M2, q, k1, k2, k3, k4⟩ := rnew_spec n M1 hz
        have hc := cells_new M2 [.slice none 0 0, .int .i64 0, .int .i64 0] 0
        obtain ⟨M3, w1, w2, w3, _⟩ := hc.wr (o := 0) (vs := [.slice q n.toNat 1, .int .i64 0, .int .i64 0]) (by simp)
        simp only [wrL, List.set_cons_zero, List.set_cons_succ] at w2
        have s3 : Same M2 M3 [] := ((same_app M2 _).trans w3).mono' (by simp)
        have hall := (h3.trans k3).trans s3
        have lq := k2.lt
        have hln : l.length ≤ 60 := by rw [ofN] at c2; omega
        have hl2 := k3.le
        have hrep : (List.replicate n.toNat (0 : Int)).length = n.toNat := by simp
        have hpb : ∀ x ∈ blk p, 0 < l.length → x < M.length := fun x hx h0 => hp.lt h0 x hx
        simp only [c1, c2, decide_false, Bool.false_eq_true, if_false, h1, Option.bind_some, ptrOf_ptr, k1, tup2, agg3, get0, get1, get2, sliceOf_slice, intOf_int, boolOf_bool, w1, Option.isNone_some, Bool.not_false, Bool.not_true, beq_self_eq_true]
        have hmem : IsMem M3 b a (List.replicate n.toNat 0) 0 0 := (h2.same k3 (by simp) (by simp)).same s3 (by simp) (by simp)
        have href : IsRef M3 M2.length q 1 (List.replicate n.toNat 0) 0 0 := ⟨by rw [hrep]; exact w2, by rw [hrep]; exact k2.same s3 (by simp), fun hx => by have := lq _ hx; omega⟩
        have hd1 : b ≠ M2.length ∧ a ≠ M2.length ∧ b ∉ blk q ∧ a ∉ blk q := ⟨by omega, by omega, fun hx => by have := k4 _ hx; omega, fun hx => by have := k4 _ hx; omega⟩
        by_cases hl0 : l.length = 0
        · have hl0' : l = [] := List.eq_nil_of_length_eq_zero hl0
          subst hl0'
          obtain ⟨M', g⟩ := plays_end (p := none) (l := []) ⟨hmem, href, ⟨rfl, fun h => by simp at h⟩, hd1, by simp, by simp; omega⟩ (by simp; omega) fr many hfr
          refine ⟨M', ?_⟩
          rw [P5_34_eq LL L_loop]
          have : ¬ ((0 : Int) < Int.ofNat 0) := by decide
          simp only [List.length_nil, this, decide_false, Bool.false_eq_true, if_false]
          exact g
        · exact plays_loop hln fr many hfr l.length 0 M3 _ 0 0 (by omega) ⟨hmem, href, hp.same hall (by simp), hd1, fun x hx => by
            have := hpb x hx (by omega)
            have h3l := h3.le
            exact ⟨by omega, by omega, by omega, fun hq => by have := k4 _ hq; omega⟩, by simp; omega⟩ (by omega) (by omega) (by simp; omega)
    · obtain ⟨M2, k1, k2⟩ := rnew_none n M hz
      have hc := cells_new M2 [.slice none 0 0, .int .i64 0, .int .i64 0] 0
      obtain ⟨M3, w1, w2, w3, _⟩ := hc.wr (o := 0) (vs := [.slice none 0 0, .int .i64 0, .int .i64 0]) (by simp)
      by_cases c1 : n > 40
      · have c3 : ¬ n ≤ 262144 := by omega
        simp only [c1, c2, c3, decide_true, decide_false, Bool.false_eq_true, if_false, if_true, new_none n M hz, Option.bind_some, ptrOf_ptr, k1, tup2, agg3, get0, get1, get2, sliceOf_slice, intOf_int, boolOf_bool, w1, Option.isNone_none, Bool.not_true, Bool.not_false, beq_self_eq_true, aw]
        exact ⟨_, rfl⟩
      · simp only [c1, c2, decide_false, Bool.false_eq_true, if_false, if_true, new_none n M hz, Option.bind_some, ptrOf_ptr, k1, tup2, agg3, get0, get1, get2, sliceOf_slice, intOf_int, boolOf_bool, w1, Option.isNone_none, Bool.not_true, Bool.not_false, beq_self_eq_true, aw]
        exact ⟨_, rfl⟩

open Go.ChangeShapes Go.WideShapes Go.ChangeAt Go.RowKit

theorem plays_main (A : AMem) (vs : List Value) (h : HoldsA A [(false, [.int .i64]), (false, [.slice [.int .i64, .int .i64, .int .u64, .int .u64]]), (false, [.int .i64]), (false, [.int .i64])] vs) :
    ∃ A', (lim env).call 5 vs A = some (.bool true, A') := by
  obtain ⟨_, _, rfl, hn, _, _, rfl, hs, _, _, rfl, hf, _, _, rfl, hm, rfl⟩ := h
  simp only [HoldsV, HoldsL, Holds, Bool.false_eq_true, if_false] at hn hf hm
  unfold HoldsV at hs
  rw [if_neg (by simp)] at hs
  obtain ⟨_, _, e, ⟨n, rfl, _⟩, rfl⟩ := hn; cases e
  obtain ⟨_, _, e, ⟨fr, rfl, hfr⟩, rfl⟩ := hf; cases e
  obtain ⟨_, _, e, ⟨m, rfl, _⟩, rfl⟩ := hm; cases e
  obtain ⟨v', _, e, hs, h'⟩ := holdsL_cons hs
  cases e
  obtain ⟨p, l, rfl, h1, h2, h3⟩ := holds_list encS (fun _ => True) (by simp) hs fun cs hc => by
    simp only [HoldsL, Holds] at hc
    obtain ⟨_, _, rfl, ⟨x0, rfl, _⟩, _, _, rfl, ⟨x1, rfl, _⟩, _, _, rfl, ⟨x2, rfl, _⟩, _, _, rfl, ⟨x3, rfl, _⟩, rfl⟩ := hc
    exact ⟨(x0, x1, x2, x3), trivial, rfl⟩
  have := plays A n p l fr m h1 (bounds_i64 hfr)
  rw [LL_lim] at this
  exact this

theorem cellPlays_lifted (os : Os) (started : os.Started) (H : Type) (enc : TypeId × Value → H) :
    ReturnsInHanded {} Try.checked os 5 .any (Rows.cellPlaysSpec.pre6 enc Try.prog Try.f5 Rows.cellPlaysRow.domain false) (Rows.cellPlaysSpec.post enc Try.prog Try.f5 false true false false) :=
  lifted_of_args (C := Try.checked) (E := env) (by kernel_rfl) started (by kernel_rfl) Try.func5
    (ChangeSpec.witness6 (enc := enc) (C := Try.checked) false ⟨#[], #[.int .i64 0, .slice none 0 0, .int .i64 0, .int .i64 0], []⟩ 8 (by kernel_rfl) (by kernel_rfl) (by kernel_rfl) (by kernel_rfl))
    (by kernel_rfl) (by kernel_rfl) (by kernel_rfl : Try.f5.resultTypes = #[4]) (by kernel_rfl) rfl
    (fun ds hd => by
      match ds, hd with
      | [d1, d2, d3, d4], _ => rfl) envOk (by kernel_rfl) (by kernel_rfl) plays_main

theorem cellPlays_holds : Rows.CellPlaysSaid :=
  OpenClaim.holds_of_wide 5 Try.f5 rfl rfl rfl rfl rfl rfl rfl ⟨rfl, rfl, rfl, rfl, rfl⟩ rfl rfl rfl rfl rfl (by kernel_rfl) Try.func5 (by kernel_rfl)
    (of_decide_eq_true (by kernel_rfl)) (by unfold Func.isWrapper; rw [if_neg (of_decide_eq_false (by kernel_rfl))]; exact ⟨rfl, rfl⟩)
    (fun os started H enc _ => cellPlays_lifted os started H enc)


end Go.Proofs.Ytaepdefnomcllaa
