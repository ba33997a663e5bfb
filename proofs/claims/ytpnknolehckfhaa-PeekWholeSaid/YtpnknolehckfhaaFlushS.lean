/- The law's own functions over flushes: of, fits, same, made; flush.Steps. -/
import Derived.Test.YtpnknolehckfhaaFlushM
import Derived.Test.YtpnknolehckfhaaEqLaw34
set_option linter.unusedVariables false
set_option linter.unusedSimpArgs false
namespace Go.Proofs.Ytpnknolehckfhaa
open Go Go.Ax

theorem lay33_spec (p s : Int) : ∃ M, LL.call 12 [lay p s] [] = some (lay p s, M) := by
  rw [L_call12, E12]
  exact ⟨_, rfl⟩

theorem of_loop {q : Option Addr} {es : List En} {qc : Nat} (hl : es.length ≤ 1000000) : ∀ (d j : Nat) (M : AMem) (o : Option Addr) (oc : Nat), j + d = es.length → RdL M encE q es.length es → (∀ b ∈ blk q, 0 < es.length → b ∉ blk o) → Slc M 4 o j oc ((es.take j).flatMap encE) →
    ∃ M' o' oc', P14_8 LL q es.length qc o j oc j M = some (.slice o' es.length oc', M') ∧ Slc M' 4 o' es.length oc' (es.flatMap encE) ∧ Grn M o M' o' := by
  intro d
  induction d with
  | zero =>
    intro j M o oc hj hq hqo ho
    obtain rfl : j = es.length := by omega
    rw [List.take_length] at ho
    rw [P14_8_eq LL L_loop, ifDn (by rw [ofN]; omega), P14_19_eq]
    exact ⟨M, o, oc, rfl, ho, .refl _ _⟩
  | succ d ih =>
    intro j M o oc hj hq hqo ho
    rw [P14_8_eq LL L_loop, ifD (by rw [ofN]; omega)]
    have hjl : j < es.length := by omega
    obtain ⟨z, rfl, hz⟩ := hq.2 (by omega)
    obtain ⟨e, hej⟩ : ∃ e, es[j]? = some e := ⟨_, List.getElem?_eq_getElem hjl⟩
    obtain ⟨l0, l1, l2, l3⟩ := ent_ld hz hej
    have hg : (0 : Int) ≤ (j : Int) ∧ (j : Int) < Int.ofNat es.length := by rw [ofN]; omega
    have hw : IntKind.wrap .i64 ((j : Int) + 1) = ((j + 1 : Nat) : Int) := by rw [w64 (by omega)]; rfl
    have hrow := rowOf_new M 4 1 (encE e) 0 4 rfl
    obtain ⟨M1, g1, g2, g3⟩ := grn_row (bytes := 32) (new := encE e) (m := 1) (v := 0) ho rfl (by omega) (by omega)
    unfold encE at g1 hrow
    have ht : (es.take j).flatMap encE ++ encE e = (es.take (j + 1)).flatMap encE := by rw [List.take_add_one, hej]; simp
    rw [ht] at g2
    have hzl := hz.lt
    obtain ⟨M', o', oc', k1, k2, k3⟩ := ih (j + 1) M1 _ 4 (by omega) (hq.same g3.same (fun b hb => hqo b hb (by omega))) (fun b hb h0 => g3.not (by simp at hb; omega) (hqo b hb h0)) g2
    refine ⟨M', o', oc', ?_, k2, g3.trans k3⟩
    simp only [↓if_pos hg, Nat.zero_add, Int.toNat_natCast, ↓bLI l0, ↓bLI l1, ↓bLI l2, ↓bLI l3, ↓bX hrow, g1, Nat.add_assoc, Nat.reduceAdd]
    rw [P14_18_eq, hw]
    exact k1

theorem of33_spec {M : AMem} {q : Option Addr} {es : List En} {qc : Nat} (hq : RdL M encE q es.length es) (hl : es.length ≤ 1000000) :
    ∃ M' o oc, LL.call 14 [.slice q es.length qc] M = some (.slice o es.length oc, M') ∧ RdL M' encE o es.length es ∧ Same M M' [] ∧ ∀ b ∈ blk o, M.length ≤ b := by
  rw [L_call14, E14]
  obtain ⟨M', o', oc', k1, k2, k3⟩ := of_loop (qc := qc) hl es.length 0 M none 0 (by omega) hq (by simp) (by simpa using Slc.nil M 4 0)
  refine ⟨M', o', oc', k1, ⟨rfl, fun h => ?_⟩, k3.same, fun b hb => (k3.new b hb).resolve_left (by simp)⟩
  obtain ⟨a, h1, h2⟩ := k2.pos h
  exact ⟨a, h1, h2.rd⟩

/-! ### jobs -/

structure Jb where
  st : Int
  p : Option Addr
  es : List En

def encJ (j : Jb) : List Value := [.int .i64 j.st, .slice j.p j.es.length 0]
theorem encJ_length (j : Jb) : (encJ j).length = 2 := rfl

/-- Jobs as they are handed in: below N. -/
structure Jobs (N : Nat) (M : AMem) (q : Option Addr) (js : List Jb) : Prop where
  rd : RdL M encJ q js.length js
  bq : 0 < js.length → ∀ b ∈ blk q, b < N
  es : ∀ j ∈ js, RdL M encE j.p j.es.length j.es ∧ (0 < j.es.length → ∀ b ∈ blk j.p, b < N)

theorem rdl_same {T : Type} {M M' : AMem} {enc : T → List Value} {S : List Nat} {p : Option Addr} {n : Nat} {l : List T} (h : RdL M enc p n l) (hs : Same M M' S) (hb : 0 < n → ∀ x ∈ blk p, x ∉ S) : RdL M' enc p n l :=
  ⟨h.1, fun hn => let ⟨a, e, hc⟩ := h.2 hn; ⟨a, e, hc.same hs (hb hn a (by rw [e]; simp))⟩⟩

theorem Jobs.same {N : Nat} {M M' : AMem} {q : Option Addr} {js : List Jb} {S : List Nat} (h : Jobs N M q js) (s : Same M M' S) (hS : ∀ b ∈ S, N ≤ b) : Jobs N M' q js :=
  ⟨rdl_same h.rd s (fun h0 b hb hbs => by have := h.bq h0 b hb; have := hS b hbs; omega), h.bq,
    fun j hj => ⟨rdl_same (h.es j hj).1 s (fun h0 b hb hbs => by have := (h.es j hj).2 h0 b hb; have := hS b hbs; omega), (h.es j hj).2⟩⟩

theorem Jobs.ld {N : Nat} {M : AMem} {q : Option Addr} {js : List Jb} (h : Jobs N M q js) {i : Nat} {j : Jb} (hj : js[i]? = some j) : ∃ z, q = some ⟨z, 0, none⟩ ∧ Rd M z (js.flatMap encJ) ∧ M.ld z (i * 2) = some (.int .i64 j.st) ∧ M.ld z (i * 2 + 1) = some (.slice j.p j.es.length 0) := by
  have hlt := (List.getElem?_eq_some_iff.1 hj).1
  obtain ⟨z, hz, hr⟩ := h.rd.2 (by omega)
  refine ⟨z, hz, hr, ?_, ?_⟩
  · have := flat_get encJ_length js i 0 j hj (by omega); rw [Nat.add_zero] at this; rw [hr.ld, this]; rfl
  · rw [hr.ld, flat_get encJ_length js i 1 j hj (by omega)]; rfl

def totJ (js : List Jb) : Nat := (js.map fun j => j.es.length).sum

theorem totJ_le : ∀ (js : List Jb), (∀ j ∈ js, j.es.length ≤ 1000000000000000) → totJ js ≤ js.length * 1000000000000000
  | [], _ => by simp [totJ]
  | j :: js, h => by
    have := totJ_le js (fun k hk => h k (by simp [hk]))
    have := h j (by simp)
    simp only [totJ, List.map_cons, List.sum_cons, List.length_cons] at *
    omega

theorem totJ_mem : ∀ {js : List Jb} {j : Jb}, j ∈ js → j.es.length ≤ totJ js
  | k :: js, j, h => by
    simp only [totJ, List.map_cons, List.sum_cons]
    rcases List.mem_cons.1 h with rfl | h
    · omega
    · have := totJ_mem h; unfold totJ at this; omega

theorem fits_loop {N : Nat} {M : AMem} {q : Option Addr} {js : List Jb} {qc : Nat} (h : Jobs N M q js) (hjl : js.length ≤ 1000000000000000) (hes : ∀ j ∈ js, j.es.length ≤ 1000000000000000) : ∀ (d i : Nat) (n : Int), i + d = js.length → (js.length ≤ 6 → n = (totJ (js.take i) : Nat)) →
    ∃ n', P7_8 LL q js.length qc n i M = P7_19 LL q js.length qc n' M ∧ (js.length ≤ 6 → n' = (totJ js : Nat)) := by
  intro d
  induction d with
  | zero =>
    intro i n hi hn
    rw [P7_8_eq LL L_loop, ifDn (by rw [ofN]; omega)]
    exact ⟨n, rfl, fun h6 => by rw [hn h6, List.take_of_length_le (by omega)]⟩
  | succ d ih =>
    intro i n hi hn
    have hil : i < js.length := by omega
    obtain ⟨j, hj⟩ : ∃ j, js[i]? = some j := ⟨_, List.getElem?_eq_getElem hil⟩
    obtain ⟨z, rfl, hz, l0, l1⟩ := h.ld hj
    have hg : (0 : Int) ≤ (i : Int) ∧ (i : Int) < Int.ofNat js.length := by rw [ofN]; omega
    have hw : IntKind.wrap .i64 ((i : Int) + 1) = ((i + 1 : Nat) : Int) := by rw [w64 (by omega)]; rfl
    have ht : totJ (js.take (i + 1)) = totJ (js.take i) + j.es.length := by rw [List.take_add_one, hj]; simp [totJ]
    obtain ⟨n', k1, k2⟩ := ih (i + 1) (IntKind.wrap .i64 (n + (j.es.length : Nat))) (by omega) (fun h6 => by
      have hb := totJ_le (js.take (i + 1)) (fun k hk => hes k (List.mem_of_mem_take hk))
      have hb2 : (js.take (i + 1)).length ≤ 6 := by rw [List.length_take]; omega
      have hb3 : (js.take (i + 1)).length * 1000000000000000 ≤ 6 * 1000000000000000 := Nat.mul_le_mul_right _ hb2
      rw [hn h6, ht, w64 (by omega)]
      omega)
    refine ⟨n', ?_, k2⟩
    rw [P7_8_eq LL L_loop, ifD hg.2]
    simp only [↓if_pos hg, Nat.zero_add, Int.toNat_natCast, ↓bLS l1, ofN]
    rw [P7_18_eq, hw]
    exact k1

theorem fits34_spec {N : Nat} {M : AMem} {q : Option Addr} {js : List Jb} {qc : Nat} (h : Jobs N M q js) (hjl : js.length ≤ 1000000000000000) (hes : ∀ j ∈ js, j.es.length ≤ 1000000000000000) :
    LL.call 7 [.slice q js.length qc] M = some (.bool (decide (js.length ≤ 6 ∧ totJ js ≤ 16)), M) := by
  rw [L_call7, E7]
  obtain ⟨n', k1, k2⟩ := fits_loop (qc := qc) h hjl hes js.length 0 0 (by omega) (fun _ => by simp [totJ])
  rw [show (0 : Int) = ((0 : Nat) : Int) from rfl] at *
  rw [k1, P7_19_eq]
  by_cases c : js.length ≤ 6
  · rw [ifD (by rw [ofN]; omega), k2 c]
    congr 3
    rw [decide_eq_decide]
    omega
  · rw [ifDn (by rw [ofN]; omega), decide_eq_false (by omega)]

end Go.Proofs.Ytpnknolehckfhaa
