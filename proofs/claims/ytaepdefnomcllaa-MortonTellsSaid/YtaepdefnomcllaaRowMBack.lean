/- MortonBack: whatever the places and the tile, the law answers true, and each argument reads as it did. No condition. -/
import Derived.Test.YtaepdefnomcllaaRows
import Derived.Test.YtaepdefnomcllaaEqLaw46
import Derived.Test.YtaepdefnomcllaaPlsLaw
set_option linter.unusedVariables false
set_option linter.unusedSimpArgs false
namespace Go.Proofs.Ytaepdefnomcllaa
open Go Go.Ax

theorem gat_one (a : Nat) (h : a < 2) : gat a = a := by rw [gat_eq, show a / 4 = 0 by omega]; simp [gat]; omega

theorem awake46 : ∃ M, LL.call 42 [] [] = some (.bool true, M) := by
  rw [L_call42, E42]
  obtain ⟨_, h1⟩ := mback_spec 8
  obtain ⟨_, h2⟩ := mof_spec 3 1
  obtain ⟨_, h3⟩ := mof_spec (-1) 0
  obtain ⟨M4, p, c, h4, _, _⟩ := order_spec 3 2 (by omega) (by omega) []
  obtain ⟨_, h5⟩ := mtile_spec 7 1
  rw [pls_length (by omega) (by omega)] at h4
  have e1 : backI 8 = (0, 2) := by simp [backI, gat]
  have e2 : ofI 3 1 = 7 := by simp [ofI, inB, mor, spr]
  have e3 : ofI (-1) 0 = -1 := by simp [ofI, inB]
  have e5 : tileI 7 1 = 1 := by simp [tileI]
  rw [e1] at h1; rw [e2] at h2; rw [e3] at h3; rw [e5] at h5
  have h4' : LL.call 46 [.int .i64 3, .int .i64 2] [] = some (.slice p (3 * 2) c, M4) := h4
  have e6 : (Int.ofNat (3 * 2) == 6) = true := rfl
  simp only [h1, Option.bind_some, tup2, get0, get1, intOf_int, h2, h3, h4', h5, sliceOf_slice, beq_self_eq_true, if_true, e6]
  exact ⟨_, rfl⟩

theorem beq_iff {α : Type} [BEq α] [LawfulBEq α] {a b c d : α} (h : a = b ↔ c = d) : (a == b) = (c == d) := by
  by_cases e : a = b
  · have := h.1 e; subst e; subst this; simp
  · have : ¬ c = d := fun hh => e (h.2 hh)
    rw [beq_eq_false_iff_ne.2 e, beq_eq_false_iff_ne.2 this]

theorem mback_law (x y z w k0 : Nat) (hx : x < 65536) (hy : y < 65536) (hz : z < 65536) (hw : w < 65536) (hk0 : k0 < 256) (M : AMem) :
    ∃ M', LL.call 8 [.int .u16 (x : Int), .int .u16 (y : Int), .int .u16 (z : Int), .int .u16 (w : Int), .int .u8 (k0 : Int)] M = some (.bool true, M') := by
  rw [L_call8, E8]
  obtain ⟨_, aw⟩ := awake46
  have n1 := mor_lt hx hy
  have n2 := mor_lt hz hw
  obtain ⟨_, a1⟩ := mof_spec x y
  obtain ⟨_, a2⟩ := mof_spec z w
  have e1 : ofI (x : Int) (y : Int) = ((mor x y : Nat) : Int) := by rw [ofI, if_pos (by unfold inB; omega), Int.toNat_natCast, Int.toNat_natCast]
  have e2 : ofI (z : Int) (w : Int) = ((mor z w : Nat) : Int) := by rw [ofI, if_pos (by unfold inB; omega), Int.toNat_natCast, Int.toNat_natCast]
  rw [e1] at a1; rw [e2] at a2
  obtain ⟨_, a3⟩ := mback_spec (mor x y : Nat)
  rw [backI_nat n1, gat_mor, gat_half] at a3
  have w1 : IntKind.wrap .i64 (x : Int) = x := w64 (by omega)
  have w2 : IntKind.wrap .i64 (y : Int) = y := w64 (by omega)
  have w3 : IntKind.wrap .i64 (z : Int) = z := w64 (by omega)
  have w4 : IntKind.wrap .i64 (w : Int) = w := w64 (by omega)
  have w5 : IntKind.wrap .i64 (k0 : Int) = k0 := w64 (by omega)
  have hk : Int.tmod (k0 : Int) 17 = ((k0 % 17 : Nat) : Int) := by rw [Int.tmod_eq_emod_of_nonneg (by omega)]; rfl
  have hkl : k0 % 17 < 17 := Nat.mod_lt _ (by decide)
  generalize k0 % 17 = k at hk hkl
  obtain ⟨_, t1⟩ := mtile_spec (mor x y : Nat) (k : Int)
  obtain ⟨_, t2⟩ := mtile_spec (mor z w : Nat) (k : Int)
  have f1 : tileI (mor x y : Nat) (k : Int) = ((mor (x / 2 ^ k) (y / 2 ^ k) : Nat) : Int) := by rw [tileI, if_pos (by omega), Int.toNat_natCast, Int.toNat_natCast, mor_div]
  have f2 : tileI (mor z w : Nat) (k : Int) = ((mor (z / 2 ^ k) (w / 2 ^ k) : Nat) : Int) := by rw [tileI, if_pos (by omega), Int.toNat_natCast, Int.toNat_natCast, mor_div]
  rw [f1] at t1; rw [f2] at t2
  have k1 : ¬ (k : Int) < 0 := by omega
  have k2 : IntKind.wrap .i64 (2 * (k : Int)) = ((2 * k : Nat) : Int) := by rw [w64 (by omega)]; omega
  have k3 : ¬ ((2 * k : Nat) : Int) < 0 := by omega
  have k4 : min k (IntKind.bits .u16) = k := by show min _ 16 = _; omega
  have k5 : min (2 * k) (IntKind.bits .i64) = 2 * k := by show min _ 64 = _; omega
  have hp : 4 ^ k ≤ 4 ^ 16 := Nat.pow_le_pow_right (by decide) (by omega)
  have hp0 : 0 < 4 ^ k := Nat.pow_pos (by decide)
  have k6 : IntKind.wrap .i64 (1 * 2 ^ (2 * k)) = ((4 ^ k : Nat) : Int) := by
    have : (1 : Int) * 2 ^ (2 * k) = ((4 ^ k : Nat) : Int) := by rw [Int.one_mul, Int.pow_mul]; simp
    rw [this]; exact w64 (by omega)
  have k7 : ¬ ((4 ^ k : Nat) : Int) = 0 := by omega
  have k8 : IntKind.wrap .i64 (Int.tdiv (mor x y : Nat) ((4 ^ k : Nat) : Int)) = ((mor (x / 2 ^ k) (y / 2 ^ k) : Nat) : Int) := by
    rw [Int.tdiv_eq_ediv_of_nonneg (by omega), ← Int.natCast_ediv, mor_div]
    have := Nat.div_le_self (mor x y) (4 ^ k)
    rw [mor_div] at this
    exact w64 (by omega)
  have d1 : ¬ ((mor x y : Nat) : Int) < 0 := by omega
  have d2 : ¬ ((mor x y : Nat) : Int) ≥ 4294967296 := by omega
  have q1 : ∀ v : Nat, Int.fdiv (v : Int) (2 ^ k) = ((v / 2 ^ k : Nat) : Int) := fun v => by rw [shr_nat, Nat.shiftRight_eq_div_pow]
  have hm : ∀ a b c d : Nat, mor a b = mor c d ↔ a = c ∧ b = d := fun a b c d => ⟨mor_inj, fun h => by rw [h.1, h.2]⟩
  have hmi : ∀ a b c d : Nat, (((mor a b : Nat) : Int) == ((mor c d : Nat) : Int)) = ((a == c) && (b == d)) := fun a b c d => by
    by_cases h1 : a = c
    · by_cases h2 : b = d
      · subst h1; subst h2; simp
      · rw [beq_eq_false_iff_ne.2 h2, Bool.and_false]; exact beq_eq_false_iff_ne.2 fun h => h2 (mor_inj (Int.ofNat_inj.1 h)).2
    · rw [beq_eq_false_iff_ne.2 h1, Bool.false_and]; exact beq_eq_false_iff_ne.2 fun h => h1 (mor_inj (Int.ofNat_inj.1 h)).1
  have hci : ∀ a b : Nat, ((a : Int) == (b : Int)) = (a == b) := fun a b => by
    by_cases h : a = b
    · subst h; simp
    · rw [beq_eq_false_iff_ne.2 h]; exact beq_eq_false_iff_ne.2 fun e => h (by omega)
  simp only [a1, a2, a3, aw, Option.bind_some, intOf_int, boolOf_bool, tup2, get0, get1, w1, w2, w3, w4, w5, bne_self_eq_false, Bool.false_eq_true, if_false, d1, d2, decide_false, hk, k1, k2, k3, k4, k5, k6, k7, k8, q1, Int.toNat_natCast, t1, t2, hmi, hci, beq_self_eq_true, Bool.and_self, if_true]
  by_cases c1 : x ≤ z
  · by_cases c2 : y ≤ w
    · have hmm := mor_mono c1 c2
      have c3 : ¬ ((mor x y : Nat) : Int) > ((mor z w : Nat) : Int) := by omega
      have c1' : (x : Int) ≤ (z : Int) := by omega
      have c2' : (y : Int) ≤ (w : Int) := by omega
      simp only [c1', c2', c3, decide_true, decide_false, Bool.false_eq_true, if_true, if_false]
      cases hxz : (x == z) <;> cases hyw : (y == w) <;> cases hxk : (x / 2 ^ k == z / 2 ^ k) <;> cases hyk : (y / 2 ^ k == w / 2 ^ k) <;> simp
    · have c1' : (x : Int) ≤ (z : Int) := by omega
      have c2' : ¬ (y : Int) ≤ (w : Int) := by omega
      simp only [c1', c2', decide_true, decide_false, Bool.false_eq_true, if_true, if_false]
      cases hxz : (x == z) <;> cases hyw : (y == w) <;> cases hxk : (x / 2 ^ k == z / 2 ^ k) <;> cases hyk : (y / 2 ^ k == w / 2 ^ k) <;> simp
  · have c1' : ¬ (x : Int) ≤ (z : Int) := by omega
    simp only [c1', decide_false, Bool.false_eq_true, if_false]
    cases hxz : (x == z) <;> cases hyw : (y == w) <;> cases hxk : (x / 2 ^ k == z / 2 ^ k) <;> cases hyk : (y / 2 ^ k == w / 2 ^ k) <;> simp

open Go.ChangeShapes Go.WideShapes Go.ChangeAt Go.RowKit

theorem mback_main (A : AMem) (vs : List Value) (h : HoldsA A [(false, [.int .u16]), (false, [.int .u16]), (false, [.int .u16]), (false, [.int .u16]), (false, [.int .u8])] vs) :
    ∃ A', (lim env).call 8 vs A = some (.bool true, A') := by
  simp only [HoldsA, HoldsV, HoldsL, Holds, Bool.false_eq_true, if_false] at h
  obtain ⟨_, _, rfl, ⟨_, _, e1, ⟨x, rfl, hx⟩, rfl⟩, _, _, rfl, ⟨_, _, e2, ⟨y, rfl, hy⟩, rfl⟩, _, _, rfl, ⟨_, _, e3, ⟨z, rfl, hz⟩, rfl⟩, _, _, rfl, ⟨_, _, e4, ⟨w, rfl, hw⟩, rfl⟩, _, _, rfl, ⟨_, _, e5, ⟨k, rfl, hk⟩, rfl⟩, rfl⟩ := h
  cases e1; cases e2; cases e3; cases e4; cases e5
  have bx := bounds_u16 hx; have by' := bounds_u16 hy; have bz := bounds_u16 hz; have bw := bounds_u16 hw; have bk := bounds_u8 hk
  have := mback_law x.toNat y.toNat z.toNat w.toNat k.toNat (by omega) (by omega) (by omega) (by omega) (by omega) A
  rw [LL_lim, Int.toNat_of_nonneg (by omega), Int.toNat_of_nonneg (by omega), Int.toNat_of_nonneg (by omega), Int.toNat_of_nonneg (by omega), Int.toNat_of_nonneg (by omega)] at this
  exact this

theorem mortonBack_lifted (os : Os) (started : os.Started) (H : Type) (enc : TypeId × Value → H) :
    ReturnsInHanded {} Try.checked os 8 .any (Rows.mortonBackSpec.pre6 enc Try.prog Try.f8 Rows.mortonBackRow.domain false) (Rows.mortonBackSpec.post enc Try.prog Try.f8 false true false false) :=
  lifted_of_args (C := Try.checked) (E := env) (by kernel_rfl) started (by kernel_rfl) Try.func8
    (ChangeSpec.witness6 (enc := enc) (C := Try.checked) false ⟨#[], #[.int .u16 0, .int .u16 0, .int .u16 0, .int .u16 0, .int .u8 0], []⟩ 8 (by kernel_rfl) (by kernel_rfl) (by kernel_rfl) (by kernel_rfl))
    (by kernel_rfl) (by kernel_rfl) (by kernel_rfl : Try.f8.resultTypes = #[4]) (by kernel_rfl) rfl
    (fun ds hd => by
      match ds, hd with
      | [d1, d2, d3, d4, d5], _ => rfl) envOk (by kernel_rfl) (by kernel_rfl) mback_main

theorem mortonBack_holds : Rows.MortonBackSaid :=
  OpenClaim.holds_of_wide 8 Try.f8 rfl rfl rfl rfl rfl rfl rfl ⟨rfl, rfl, rfl, rfl, rfl⟩ rfl rfl rfl rfl rfl (by kernel_rfl) Try.func8 (by kernel_rfl)
    (of_decide_eq_true (by kernel_rfl)) (by unfold Func.isWrapper; rw [if_neg (of_decide_eq_false (by kernel_rfl))]; exact ⟨rfl, rfl⟩)
    (fun os started H enc _ => mortonBack_lifted os started H enc)


end Go.Proofs.Ytaepdefnomcllaa
