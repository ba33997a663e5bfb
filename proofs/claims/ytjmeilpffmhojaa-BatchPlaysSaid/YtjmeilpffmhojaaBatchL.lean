/- The loop over the order. -/
import Derived.Test.YtjmeilpffmhojaaBatchP
import Derived.Test.YtjmeilpffmhojaaEqBPlays
set_option linter.unusedVariables false
set_option linter.unusedSimpArgs false
namespace Go.Proofs.Ytjmeilpffmhojaa
open Go Go.Ax

theorem bch1 {x n : Nat} {A B : AMem} (h : AMem.ver A x = AMem.ver B x) : chkOk [(21, 16), (34, 29)] [(21, x)] [(29, (B, B)), (16, (A, B))] = true := by
  simp [chkOk, List.lookup, h]

theorem plays35_loop {g : Bool} {all size : Int} (hf : g = true → CFit all size) {N0 : Nat} {mb ma rb : Nat} {p : Option Addr} {pc a b : Nat} {qs : List (Option Addr)} (hs : BSep N0 mb ma rb p a b qs) (hq0 : 0 < qs.length) (hq8 : qs.length ≤ 8)
    {o : Option Addr} {oc : Nat} {ord : List Int} (hord : ∀ x ∈ ord, 0 ≤ x ∧ x < 256) (hoL : ord.length ≤ 80) (ho : ∀ x ∈ blk o, 0 < ord.length → x < N0)
    (hend : ∀ (M : AMem) (ss : List CS) (cur : Int) (T : Nat), BInv g all size M mb ma rb p pc a b qs ss cur T → T ≤ 81 → ∃ M', P3_84 LL all size rb (some ⟨mb, 0, none⟩) M = some (.bool true, M')) :
    ∀ (d i : Nat) (M : AMem) (ss : List CS) (cur : Int) (T : Nat), i + d = ord.length → RdI M .u8 o ord.length ord → T + d ≤ 81 → BInv g all size M mb ma rb p pc a b qs ss cur T →
      ∃ M', P3_55 LL all size o ord.length oc rb (some ⟨mb, 0, none⟩) (some ⟨a, 0, none⟩) qs.length 1 (some ⟨b, 0, none⟩) ss.length 8 i M = some (.bool true, M') := by
  intro d
  induction d with
  | zero =>
    intro i M ss cur T hi hr hT hv
    obtain ⟨M', e⟩ := hend M ss cur T hv (by omega)
    refine ⟨M', ?_⟩
    rw [P3_55_eq LL L_loop]
    have : ¬ ((i : Int) < Int.ofNat ord.length) := by rw [ofN]; omega
    simp only [this, decide_false, Bool.false_eq_true, if_false]
    exact e
  | succ d ih =>
    intro i M ss cur T hi hr hT hv
    have hlt : (i : Int) < Int.ofNat ord.length := by rw [ofN]; omega
    have hi0 : (0 : Int) ≤ (i : Int) := by omega
    have hil : i < ord.length := by omega
    obtain ⟨ob, rfl, hob⟩ := hr.2 (by omega)
    have hv8 := hord (ord.getD i 0) (by rw [List.getD_eq_getElem?_getD, List.getElem?_eq_getElem hil]; exact List.getElem_mem hil)
    obtain ⟨v, hv'⟩ : ∃ v : Nat, ord.getD i 0 = (v : Int) := ⟨(ord.getD i 0).toNat, by omega⟩
    have hld : M.ld ob i = some (.int .u8 (v : Int)) := by rw [hob.ld, ints_nat hil, hv']
    have w1 : IntKind.wrap .i64 (v : Int) = (v : Int) := w64 (by omega)
    have hk : v % qs.length < qs.length := Nat.mod_lt _ hq0
    have w2 : Int.tmod (v : Int) (Int.ofNat qs.length) = ((v % qs.length : Nat) : Int) := by rw [ofN]; exact Int.ofNat_tmod v qs.length
    generalize hkk : v % qs.length = k at hk w2
    obtain ⟨q, s, M1, M2, c1, c2, c3, c4, c5, c6⟩ := bboth hf hs hv (by omega) hk
    have n1 : ¬ (Int.ofNat qs.length = 0) := by rw [ofN]; omega
    have k0 : (0 : Int) ≤ (k : Int) := by omega
    have k1 : (k : Int) < Int.ofNat qs.length := by rw [ofN]; omega
    have k2 : (k : Int) < Int.ofNat ss.length := by rw [ofN, hv.len]; omega
    have hl1 : M.ld a k = some (.pointer q) := by rw [hv.pa.ld, List.getElem?_map, c1]; rfl
    have hl2 : M2.ld a k = some (.pointer q) := by rw [c5.pa.ld, List.getElem?_map, c1]; rfl
    have hk2 : k < ss.length := by rw [hv.len]; exact hk
    obtain ⟨e1, e2⟩ := c5.el k q _ c1 (List.getElem?_set_self hk2)
    have hdone := udone e1
    have hlost := ulost e1
    have hrange := urange e1 e2
    generalize hs' : (nxt g all size cur s).1 = s' at *
    generalize hc' : (nxt g all size cur s).2 = cur' at *
    have l8 : ∀ j, j < 8 → M2.ld b (k * 8 + j) = (encQ g all size s')[j]? := fun j hj => by
      rw [c5.pb.ld, flat_get (encQ_length g all size) _ _ _ s' (List.getElem?_set_self hk2) hj]
    have b4 : M2.ld b (k * 8 + 4) = some (.bool (decide (1 < s'.ph))) := by rw [l8 4 (by omega)]; unfold encQ; split <;> rfl
    have b2 : M2.ld b (k * 8 + 2) = some (.int .i64 s'.lost) := by rw [l8 2 (by omega)]; unfold encQ; split <;> rfl
    have b6 : M2.ld b (k * 8 + 6) = some (.int .i64 s'.fr) := by rw [l8 6 (by omega)]; unfold encQ; split <;> rfl
    have b7 : M2.ld b (k * 8 + 7) = some (.int .i64 s'.to) := by rw [l8 7 (by omega)]; unfold encQ; split <;> rfl
    have hck : chkOk [(21, 16), (34, 29)] [(34, b), (21, b)] [(29, (M2, M2)), (16, (M2, M2))] = true := by simp [chkOk, List.lookup]
    have w3 : IntKind.wrap .i64 ((i : Int) + 1) = ((i + 1 : Nat) : Int) := by rw [w64 (by omega)]; rfl
    have hr2 : RdI M2 .u8 (some ⟨ob, 0, none⟩) ord.length ord := hr.same c6 (fun x hx => by
      have h1 := ho x hx (by omega)
      simp only [List.mem_append, List.mem_cons, not_or]
      have e1 : x ≠ mb := fun e => by have := hs.ge mb (by simp); omega
      have e2 : x ≠ ma := fun e => by have := hs.ge ma (by simp); omega
      have e3 : x ≠ b := fun e => by have := hs.ge b (by simp); omega
      have e4 : x ≠ rb := fun e => by have := hs.ge rb (by simp); omega
      have e5 : x ∉ blk p := fun e => by have := hs.ge x (by simp [e]); omega
      have e6 : x ∉ blk q := fun e => by have := hs.qg q (List.mem_of_getElem? c1) x e; omega
      exact ⟨⟨e1, e2, e6⟩, e3, e4, e5⟩)
    obtain ⟨M', hM'⟩ := ih (i + 1) M2 _ cur' (T + 1) (by omega) hr2 (by omega) c5
    rw [List.length_set] at hM'
    refine ⟨M', ?_⟩
    rw [P3_55_eq LL L_loop]
    simp only [hlt, hi0, and_self, decide_true, if_true, Nat.zero_add, Nat.mul_one, Int.toNat_natCast, hld, intOf_int, Option.bind_some, n1, if_false, w1, w2, k0, k1, k2, hl1, ptrOf_ptr, c2, c4, boolOf_bool, beq_self_eq_true, Bool.not_true, Bool.false_eq_true,
      hl2, hdone, b4, hlost, b2, hck, bne_self_eq_false, P3_69_eq, hrange, tup3, get0, get1, get2, b6, b7, P3_78_eq, P3_83_eq, w3]
    exact hM'

end Go.Proofs.Ytjmeilpffmhojaa
