/- Numbers of a kind. -/
import Derived.Test.YtjmeilpffmhojaaAxOwn
set_option linter.unusedVariables false
namespace Go.Ax
open Go

theorem wrapu64 (n : Int) : IntKind.wrap .u64 n = n % 18446744073709551616 := by simp [IntKind.wrap, IntKind.bits, IntKind.signed]
theorem wu64 {n : Int} (h : 0 ≤ n ∧ n < 18446744073709551616) : IntKind.wrap .u64 n = n := by rw [wrapu64]; omega
theorem ofN (n : Nat) : Int.ofNat n = (n : Int) := rfl

theorem ver_same {M M' : AMem} {S : List Nat} (h : Same M M' S) {b : Nat} (hb : b < M.length) (hn : b ∉ S) : AMem.ver M b = AMem.ver M' b := by
  unfold AMem.ver; rw [h.get b hb hn]

/-- Numbers that are read through a slice. -/
def RdI (M : AMem) (k : IntKind) (p : Option Addr) (n : Nat) (l : List Int) : Prop := l.length = n ∧ (0 < n → ∃ a, p = some ⟨a, 0, none⟩ ∧ Rd M a (ints k l))

theorem RdI.of_slc {M : AMem} {k : IntKind} {p : Option Addr} {n c : Nat} {l : List Int} (h : Slc M 1 p n c (ints k l)) : RdI M k p n l :=
  ⟨by simpa using h.len, fun hn => let ⟨a, e, hc⟩ := h.pos hn; ⟨a, e, hc.rd⟩⟩

theorem RdI.same {M M' : AMem} {S : List Nat} {k : IntKind} {p : Option Addr} {n : Nat} {l : List Int} (h : RdI M k p n l) (hs : Same M M' S) (hb : ∀ x ∈ blk p, x ∉ S) : RdI M' k p n l :=
  ⟨h.1, fun hn => let ⟨a, e, hc⟩ := h.2 hn; ⟨a, e, hc.same hs (hb a (by rw [e]; simp))⟩⟩

theorem ints_nat {k : IntKind} {l : List Int} {i : Nat} (h : i < l.length) : (ints k l)[i]? = some (.int k (l.getD i 0)) := by
  rw [ints_get, List.getElem?_eq_getElem h, List.getD_eq_getElem?_getD, List.getElem?_eq_getElem h]
  rfl

/-! ### what is handed in, as lists -/

theorem holdsL_cons {A : AMem} {t : Ty} {ts : List Ty} {vs : List Value} (h : HoldsL A (t :: ts) vs) : ∃ v r, vs = v :: r ∧ Holds A t v ∧ HoldsL A ts r := by simpa only [HoldsL] using h

/-- Parts of a row, each of which stands for something: a list. -/
theorem parts_list {T : Type} (enc : T → List Value) (ok : T → Prop) {k : Nat} (hk : 0 < k) : ∀ (n : Nat) (cs : List Value), cs.length = n * k → (∀ i, i < n → ∃ x, ok x ∧ (cs.drop (i * k)).take k = enc x) →
    ∃ l : List T, l.length = n ∧ cs = l.flatMap enc ∧ ∀ x ∈ l, ok x
  | 0, cs, hl, _ => ⟨[], rfl, by simpa using hl, by simp⟩
  | n + 1, cs, hl, h => by
    obtain ⟨x, hx, e⟩ := h 0 (by omega)
    rw [Nat.zero_mul, List.drop_zero] at e
    obtain ⟨l, h1, h2, h3⟩ := parts_list enc ok hk n (cs.drop k) (by rw [List.length_drop, hl, Nat.succ_mul]; omega) fun i hi => by
      obtain ⟨y, hy, e⟩ := h (i + 1) (by omega)
      refine ⟨y, hy, ?_⟩
      rw [List.drop_drop, ← e, Nat.succ_mul, Nat.add_comm]
    refine ⟨x :: l, by simp [h1], ?_, fun y hy => ?_⟩
    · rw [List.flatMap_cons, ← h2, ← e, List.take_append_drop]
    · rcases List.mem_cons.1 hy with rfl | hy
      · exact hx
      · exact h3 y hy

/-- A row that is read: of each element a group of cells. -/
def RdL {T : Type} (M : AMem) (enc : T → List Value) (p : Option Addr) (n : Nat) (l : List T) : Prop := l.length = n ∧ (0 < n → ∃ a, p = some ⟨a, 0, none⟩ ∧ Rd M a (l.flatMap enc))

theorem RdL.same {T : Type} {M M' : AMem} {enc : T → List Value} {S : List Nat} {p : Option Addr} {n : Nat} {l : List T} (h : RdL M enc p n l) (hs : Same M M' S) (hb : ∀ x ∈ blk p, x ∉ S) : RdL M' enc p n l :=
  ⟨h.1, fun hn => let ⟨a, e, hc⟩ := h.2 hn; ⟨a, e, hc.same hs (hb a (by rw [e]; simp))⟩⟩

theorem RdL.lt {T : Type} {M : AMem} {enc : T → List Value} {p : Option Addr} {n : Nat} {l : List T} (h : RdL M enc p n l) (hn : 0 < n) : ∀ b ∈ blk p, b < M.length := by
  obtain ⟨a, rfl, hc⟩ := h.2 hn
  intro b hb; simp at hb; subst hb; exact hc.lt

/-- An argument that is a slice, as a list. -/
theorem holds_list {T : Type} {A : AMem} {e : List Ty} {v : Value} (enc : T → List Value) (ok : T → Prop) (he : 0 < e.length) (h : Holds A (.slice e) v) (hd : ∀ cs, HoldsL A e cs → ∃ x, ok x ∧ cs = enc x) :
    ∃ p l, v = .slice p l.length 0 ∧ RdL A enc p l.length l ∧ (∀ x ∈ l, ok x) ∧ l.length ≤ maxLen := by
  simp only [Holds] at h
  obtain ⟨p, n, rfl, hm, hn⟩ := h
  by_cases h0 : n = 0
  · subst h0
    exact ⟨p, [], rfl, ⟨rfl, fun h => by simp at h⟩, by simp, Nat.zero_le _⟩
  · obtain ⟨a, cs, rfl, h1, h2, h3⟩ := hn (by omega)
    obtain ⟨l, k1, k2, k3⟩ := parts_list enc ok he n cs h2 fun i hi => hd _ (h3 i hi)
    subst k1
    exact ⟨_, l, rfl, ⟨rfl, fun _ => ⟨a, rfl, by rw [← k2]; exact h1⟩⟩, k3, hm⟩

theorem flatMap_ints (k : IntKind) : ∀ l : List Int, l.flatMap (fun x => [Value.int k x]) = ints k l
  | [] => rfl
  | x :: l => by rw [List.flatMap_cons, flatMap_ints k l]; rfl

theorem RdL.rdI {M : AMem} {k : IntKind} {p : Option Addr} {n : Nat} {l : List Int} (h : RdL M (fun x => [.int k x]) p n l) : RdI M k p n l := by
  refine ⟨h.1, fun hn => ?_⟩
  obtain ⟨a, e, hc⟩ := h.2 hn
  exact ⟨a, e, by rwa [flatMap_ints] at hc⟩

end Go.Ax
