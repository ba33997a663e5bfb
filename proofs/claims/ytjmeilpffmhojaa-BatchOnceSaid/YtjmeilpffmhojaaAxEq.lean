/- Equality of structs and arrays of numbers and bools: cell by cell. -/
import Derived.Test.YtjmeilpffmhojaaAxOp7
import Derived.Laws.StructEq
set_option linter.unusedVariables false
set_option linter.unusedSimpArgs false
namespace Go.Ax
open Go Go.RowKit

theorem leafEq_some {lf : Leaf} {x y : Value} {b : Bool} (h : leafEq lf x y = some b) :
    (∃ k0 k m n, lf = .int k0 ∧ x = .int k m ∧ y = .int k n ∧ b = (m == n)) ∨ (∃ m n, lf = .bool ∧ x = .bool m ∧ y = .bool n ∧ b = (m == n)) := by
  unfold leafEq at h
  split at h
  · split at h
    · rename_i hk; subst hk; cases h; exact .inl ⟨_, _, _, _, rfl, rfl, rfl, rfl⟩
    · cases h
  · cases h; exact .inr ⟨_, _, rfl, rfl, rfl, rfl⟩
  · cases h

/-- all are held against one another, and how it comes out -/
def AllEq : List Leaf → List Value → List Value → Bool → Prop
  | [], [], [], q => q = true
  | lf :: lfs, x :: xs, y :: ys, q => ∃ b c, leafEq lf x y = some b ∧ AllEq lfs xs ys c ∧ q = (b && c)
  | _, _, _, _ => False

theorem allEq_of : ∀ (lfs : List Leaf) (xs ys : List Value) (q : Bool), leavesEq lfs xs ys = some q → AllEq lfs xs ys q
  | [], xs, ys, q, h => by
    cases xs <;> cases ys <;> simp [leavesEq] at h
    subst h; rfl
  | [lf], xs, ys, q, h => by
    cases xs with
    | nil => simp [leavesEq] at h
    | cons x xs =>
      cases ys with
      | nil => simp [leavesEq] at h
      | cons y ys =>
        cases xs with
        | nil =>
          cases ys with
          | nil =>
            simp [leavesEq] at h
            exact ⟨q, true, h, rfl, by simp⟩
          | cons y' ys => simp [leavesEq] at h
        | cons x' xs => simp [leavesEq] at h
  | lf :: lf' :: lfs, xs, ys, q, h => by
    cases xs with
    | nil => simp [leavesEq] at h
    | cons x xs =>
      cases ys with
      | nil => simp [leavesEq] at h
      | cons y ys =>
        simp only [leavesEq, Option.bind_eq_some_iff] at h
        obtain ⟨b, h1, c, h2, h3⟩ := h
        cases h3
        exact ⟨b, c, h1, allEq_of (lf' :: lfs) xs ys c h2, rfl⟩

theorem AllEq.len : ∀ {lfs : List Leaf} {xs ys : List Value} {q : Bool}, AllEq lfs xs ys q → xs.length = lfs.length ∧ ys.length = lfs.length
  | [], [], [], _, _ => ⟨rfl, rfl⟩
  | lf :: lfs, x :: xs, y :: ys, _, ⟨b, c, _, h, _⟩ => by
    have := AllEq.len h
    simp [this.1, this.2]

theorem AllEq.split : ∀ {lfs : List Leaf} {xs ys : List Value} {q : Bool} (n : Nat), AllEq lfs xs ys q → ∃ a b, AllEq (lfs.take n) (xs.take n) (ys.take n) a ∧ AllEq (lfs.drop n) (xs.drop n) (ys.drop n) b ∧ q = (a && b)
  | lfs, xs, ys, q, 0, h => ⟨true, q, by simp [AllEq], by simpa using h, by simp⟩
  | [], [], [], q, n + 1, h => ⟨true, q, by simp [AllEq], by simpa using h, by simp⟩
  | lf :: lfs, x :: xs, y :: ys, q, n + 1, ⟨b, c, h1, h2, h3⟩ => by
    obtain ⟨a', b', k1, k2, k3⟩ := AllEq.split n h2
    exact ⟨b && a', b', ⟨b, a', h1, by simpa using k1, rfl⟩, by simpa using k2, by rw [h3, k3, Bool.and_assoc]⟩

theorem AllEq.flat : ∀ {lfs : List Leaf} {xs ys : List Value} {q : Bool}, AllEq lfs xs ys q → xs.all flatLeaf = true ∧ ys.all flatLeaf = true
  | [], [], [], _, _ => ⟨rfl, rfl⟩
  | lf :: lfs, x :: xs, y :: ys, _, ⟨b, c, h, h2, _⟩ => by
    obtain ⟨g1, g2⟩ := AllEq.flat h2
    rcases leafEq_some h with ⟨_, _, _, _, _, rfl, rfl, _⟩ | ⟨_, _, _, rfl, rfl, _⟩ <;> (simp only [List.all_cons, flatLeaf, Bool.true_and]; exact ⟨g1, g2⟩)

def eqElems (d : Nat) (e : TypeId) (m : Nat) (xs ys : Array Value) : List Nat → Sem Bool
  | [] => pure true
  | i :: l => do let r ← Op.equalIn d e (← part e xs (i * m)) (← part e ys (i * m)); if (!r) = true then pure false else eqElems d e m xs ys l

section
variable {P : Program}

theorem run_equalIn_array (d : Nat) {t e : TypeId} {len n : Nat} (xs ys : Array Value) (ht : P.underlying t = some (.array len e)) (hn : sizeT P e = some n) (W : World) :
    (Op.equalIn (d + 1) t (.agg xs) (.agg ys)).run P W = (eqElems d e n xs ys (List.range' 0 len)).run P W := by
  simp only [Op.equalIn, Sem.run_bind, run_underlying ht, Result.andThen_ok, run_sizeOf hn]
  rw [Std.Legacy.Range.forIn_eq_forIn_range']
  simp only [Std.Legacy.Range.size, Nat.sub_zero, Nat.add_sub_cancel, Nat.div_one]
  generalize List.range' 0 len 1 = l
  induction l generalizing W with
  | nil => simp [eqElems]
  | cons i l ih =>
    rw [eqElems]
    simp only [List.forIn_cons, Sem.run_bind, Sem.run_ite]
    generalize (part e xs (i * n)).run P W = r1
    cases r1 with
    | ok a w1 =>
      simp only [Result.andThen_ok]
      generalize (part e ys (i * n)).run P w1 = r2
      cases r2 with
      | ok b w2 =>
        simp only [Result.andThen_ok]
        generalize (Op.equalIn d e a b).run P w2 = r3
        cases r3 with
        | ok r w3 =>
          cases r
          · simp only [Result.andThen_ok, Bool.not_false, if_true, Sem.run_pure]
          · simp only [Result.andThen_ok, Bool.not_true, Bool.false_eq_true, if_false, Sem.run_pure]
            exact ih w3
        | halt x w3 => simp [Result.andThen]
      | halt x w2 => simp [Result.andThen]
    | halt x w1 => simp [Result.andThen]

/-- A value of a type, by its cells. -/
def Shaped (P : Program) (t : TypeId) (x : Value) (cx : List Value) : Prop :=
  if isAggT P t then x = .agg cx.toArray else cx = [x]

theorem replicate_flatten_length {α : Type} (n : Nat) (l : List α) : (List.replicate n l).flatten.length = n * l.length := by simp

theorem eqTy_size {d : Nat} {t : TypeId} {l : List Leaf} (h : eqTy P d t = some l) : sizeT P t = some l.length ∧ 0 < l.length ∧ ∃ D, P.underlying t = some D := by
  cases d with
  | zero => simp [eqTy] at h
  | succ d =>
    simp only [eqTy] at h
    split at h
    · rename_i hu; split at h
      · cases h; rename_i h1; exact ⟨h1, by simp, _, hu⟩
      · cases h
    · rename_i hu; split at h
      · cases h; rename_i h1; exact ⟨h1, by simp, _, hu⟩
      · cases h
    · rename_i hu; split at h
      · cases h
      · split at h
        · split at h
          · cases h; rename_i h1; exact ⟨h1.1, h1.2, _, hu⟩
          · cases h
        · cases h
    · rename_i hu; split at h
      · split at h
        · cases h; rename_i h1; exact ⟨by rw [replicate_flatten_length]; exact h1.1, by rw [replicate_flatten_length]; exact h1.2, _, hu⟩
        · cases h
      · cases h
    · cases h

theorem run_part_shaped {t : TypeId} {n off : Nat} {D : TypeDesc} (hD : P.underlying t = some D) (hn : sizeT P t = some n) (h1 : isAggT P t = false → n = 1) (xs : List Value) (hle : off + n ≤ xs.length) (W : World) :
    ∃ x, (part t xs.toArray off).run P W = .ok x W ∧ Shaped P t x ((xs.drop off).take n) := by
  rw [run_part hD hn]
  cases ha : isAggT P t with
  | true =>
    refine ⟨_, by rw [if_pos rfl], ?_⟩
    unfold Shaped
    rw [if_pos ha]
    congr 1
    apply Array.ext'
    rw [extract_toList]
  | false =>
    have hn1 := h1 ha
    subst hn1
    have hlt : off < xs.length := by omega
    refine ⟨xs[off], ?_, ?_⟩
    · simp [hlt]
    · unfold Shaped
      rw [ha]
      simp only [Bool.false_eq_true, if_false]
      rw [List.drop_eq_getElem_cons hlt, List.take_succ_cons, List.take_zero]

theorem eqTy_leaf {d : Nat} {t : TypeId} {l : List Leaf} (h : eqTy P d t = some l) (ha : isAggT P t = false) : (∃ k, l = [.int k] ∧ P.underlying t = some (.int k)) ∨ (l = [.bool] ∧ P.underlying t = some .bool) := by
  cases d with
  | zero => simp [eqTy] at h
  | succ d =>
    simp only [eqTy] at h
    split at h
    · rename_i hu; split at h
      · cases h; exact .inl ⟨_, rfl, hu⟩
      · cases h
    · rename_i hu; split at h
      · cases h; exact .inr ⟨rfl, hu⟩
      · cases h
    · rename_i hu; simp [isAggT, hu] at ha
    · rename_i hu; simp [isAggT, hu] at ha
    · cases h

theorem eqTy_one {d : Nat} {t : TypeId} {l : List Leaf} (h : eqTy P d t = some l) (ha : isAggT P t = false) : l.length = 1 := by
  rcases eqTy_leaf h ha with ⟨k, rfl, _⟩ | ⟨rfl, _⟩ <;> rfl

theorem flatten_drop {α : Type} (l : List α) : ∀ (k n : Nat), k ≤ n → (List.replicate n l).flatten.drop (k * l.length) = (List.replicate (n - k) l).flatten
  | 0, n, _ => by simp
  | k + 1, n, h => by
    obtain ⟨n, rfl⟩ : ∃ m, n = m + 1 := ⟨n - 1, by omega⟩
    rw [List.replicate_succ, List.flatten_cons, Nat.add_mul, Nat.one_mul, Nat.add_comm, ← List.drop_drop, List.drop_left, flatten_drop l k n (by omega)]
    congr 2; omega

theorem equalIn_ok : ∀ (d : Nat) (t : TypeId) (lfs : List Leaf), eqTy P d t = some lfs → ∀ (D : Nat) (x y : Value) (cx cy : List Value) (q : Bool), d ≤ D → Shaped P t x cx → Shaped P t y cy → AllEq lfs cx cy q →
    ∀ W : World, (Op.equalIn D t x y).run P W = .ok q W
  | 0, t, lfs, h, D, x, y, cx, cy, q, hD, hx, hy, he, W => by simp [eqTy] at h
  | d + 1, t, lfs, h, D, x, y, cx, cy, q, hD, hx, hy, he, W => by
    obtain ⟨D, rfl⟩ : ∃ m, D = m + 1 := ⟨D - 1, by omega⟩
    obtain ⟨hcx, hcy⟩ := he.len
    cases ha : isAggT P t with
    | false =>
      unfold Shaped at hx hy
      rw [ha] at hx hy
      simp only [Bool.false_eq_true, if_false] at hx hy
      subst hx; subst hy
      rcases eqTy_leaf h ha with ⟨k, rfl, hu⟩ | ⟨rfl, hu⟩
      · obtain ⟨b, c, e1, e2, e3⟩ := he
        have e2' : c = true := e2
        rcases leafEq_some e1 with ⟨_, k', m, n, _, rfl, rfl, rfl⟩ | ⟨_, _, e, _⟩
        · rw [run_equalIn_int W D t k' k m n hu, e3, e2', Bool.and_true]
        · cases e
      · obtain ⟨b, c, e1, e2, e3⟩ := he
        have e2' : c = true := e2
        rcases leafEq_some e1 with ⟨_, _, _, _, e, _⟩ | ⟨m, n, _, rfl, rfl, rfl⟩
        · cases e
        · rw [run_equalIn_bool' W D t m n hu, e3, e2', Bool.and_true]
    | true =>
      unfold Shaped at hx hy
      rw [if_pos ha] at hx hy
      subst hx; subst hy
      simp only [eqTy] at h
      split at h
      · rename_i hu; simp [isAggT, hu] at ha
      · rename_i hu; simp [isAggT, hu] at ha
      · rename_i fs hu
        split at h
        · cases h
        · rename_i hst
          have hst' : P.stoodInHeld t = false := by simpa using hst
          have hf : P.fieldsOf t = fs := by simp [Program.fieldsOf, hu]
          rw [run_equalIn_struct (P := P) W D t _ _ (by rw [hf]; exact hu) hst', hf]
          split at h
          · rename_i l0 hm
            split at h
            · rename_i hsz
              obtain rfl : l0 = lfs := Option.some.inj h
              clear h
              -- the fields, one behind the other
              have hpre : ∀ (l : List Field) (o : List Leaf), l.foldlM (fun (acc : List Leaf) f => if f.name ≠ "_" ∧ f.offset = acc.length then (eqTy P d f.type).map (acc ++ ·) else none) o = some l0 → ∃ r, l0 = o ++ r := by
                intro l
                induction l with
                | nil => intro o h0; simp only [List.foldlM_nil] at h0; cases h0; exact ⟨[], by simp⟩
                | cons f l ih2 =>
                  intro o h0
                  simp only [List.foldlM_cons] at h0
                  obtain ⟨o', k1, k2⟩ := Option.bind_eq_some_iff.1 h0
                  split at k1
                  · obtain ⟨fn', k3, k4⟩ := Option.map_eq_some_iff.1 k1
                    obtain ⟨r, hr⟩ := ih2 _ k2
                    rw [← k4] at hr
                    exact ⟨fn' ++ r, by rw [hr, List.append_assoc]⟩
                  · cases k1
              have key : ∀ (l : List Field) (acc : List Leaf) (r : Bool), l.foldlM (fun (acc : List Leaf) f => if f.name ≠ "_" ∧ f.offset = acc.length then (eqTy P d f.type).map (acc ++ ·) else none) acc = some l0 →
                  AllEq (l0.drop acc.length) (cx.drop acc.length) (cy.drop acc.length) r → (Op.eqFields D cx.toArray cy.toArray l).run P W = .ok r W := by
                intro l
                induction l with
                | nil =>
                  intro acc r h0 hr
                  simp only [List.foldlM_nil] at h0
                  cases h0
                  rw [List.drop_eq_nil_of_le (Nat.le_refl _), List.drop_eq_nil_of_le (Nat.le_of_eq hcx), List.drop_eq_nil_of_le (Nat.le_of_eq hcy)] at hr
                  have : r = true := hr
                  simp [Op.eqFields, this]
                | cons f l ih =>
                  intro acc r h0 hr
                  simp only [List.foldlM_cons] at h0
                  obtain ⟨off', g1, g2⟩ := Option.bind_eq_some_iff.1 h0
                  split at g1
                  · rename_i hc
                    obtain ⟨fl, g3, g4⟩ := Option.map_eq_some_iff.1 g1
                    subst g4
                    obtain ⟨z1, z2, Df, z3⟩ := eqTy_size g3
                    obtain ⟨rr, hrr⟩ := hpre _ _ g2
                    have hlen : l0.length = acc.length + fl.length + rr.length := by rw [hrr]; simp; omega
                    obtain ⟨a, b, s1, s2, s3⟩ := hr.split fl.length
                    have hfl : (l0.drop acc.length).take fl.length = fl := by rw [hrr, List.append_assoc, List.drop_left, List.take_left]
                    rw [hfl] at s1
                    rw [List.drop_drop, List.drop_drop, List.drop_drop, ← List.length_append] at s2
                    obtain ⟨xa, p1, p2⟩ := run_part_shaped (P := P) z3 z1 (fun hna => eqTy_one g3 hna) cx (by omega : acc.length + fl.length ≤ cx.length) W
                    obtain ⟨ya, q1, q2⟩ := run_part_shaped (P := P) z3 z1 (fun hna => eqTy_one g3 hna) cy (by omega : acc.length + fl.length ≤ cy.length) W
                    have heq := equalIn_ok d f.type fl g3 D xa ya _ _ a (by omega) p2 q2 s1 W
                    have hrest := ih (acc ++ fl) b g2 s2
                    have hname : f.name ≠ "_" := hc.1
                    rw [Op.eqFields, if_pos hname]
                    rw [← hc.2] at p1 q1
                    simp only [Sem.run_bind, p1, q1, heq, Result.andThen_ok]
                    cases a
                    · simp [s3]
                    · simpa [s3] using hrest
                  · cases g1
              exact key fs.toList [] q hm (by simpa using he)
            · cases h
          · cases h
      · rename_i len e hu
        split at h
        · rename_i l1 hm
          split at h
          · rename_i hsz
            obtain rfl : (List.replicate len l1).flatten = lfs := Option.some.inj h
            clear h
            obtain ⟨z1, z2, De, z3⟩ := eqTy_size hm
            rw [replicate_flatten_length] at hcx hcy
            rw [run_equalIn_array (P := P) D cx.toArray cy.toArray hu z1 W]
            have key : ∀ (k i : Nat) (r : Bool), i + k = len → AllEq ((List.replicate len l1).flatten.drop (i * l1.length)) (cx.drop (i * l1.length)) (cy.drop (i * l1.length)) r →
                (eqElems D e l1.length cx.toArray cy.toArray (List.range' i k)).run P W = .ok r W := by
              intro k
              induction k with
              | zero =>
                intro i r hik hr
                have hil : i = len := by omega
                subst hil
                rw [flatten_drop l1 i i (Nat.le_refl _), List.drop_eq_nil_of_le (Nat.le_of_eq hcx), List.drop_eq_nil_of_le (Nat.le_of_eq hcy)] at hr
                simp at hr
                have : r = true := hr
                simp [eqElems, this]
              | succ k ih =>
                intro i r hik hr
                have hle : (i + 1) * l1.length ≤ len * l1.length := Nat.mul_le_mul_right _ (by omega)
                have hexp : (i + 1) * l1.length = i * l1.length + l1.length := by rw [Nat.add_mul, Nat.one_mul]
                obtain ⟨a, b, s1, s2, s3⟩ := hr.split l1.length
                have hfl : ((List.replicate len l1).flatten.drop (i * l1.length)).take l1.length = l1 := by
                  rw [flatten_drop l1 i len (by omega), show len - i = (len - i - 1) + 1 by omega, List.replicate_succ, List.flatten_cons, List.take_left]
                rw [hfl] at s1
                rw [List.drop_drop, List.drop_drop, List.drop_drop, ← hexp] at s2
                obtain ⟨xa, p1, p2⟩ := run_part_shaped (P := P) z3 z1 (fun hna => eqTy_one hm hna) cx (by omega : i * l1.length + l1.length ≤ cx.length) W
                obtain ⟨ya, q1, q2⟩ := run_part_shaped (P := P) z3 z1 (fun hna => eqTy_one hm hna) cy (by omega : i * l1.length + l1.length ≤ cy.length) W
                have heq := equalIn_ok d e l1 hm D xa ya _ _ a (by omega) p2 q2 s1 W
                have hrest := ih (i + 1) b (by omega) s2
                rw [List.range'_succ, eqElems]
                simp only [Sem.run_bind, p1, q1, heq, Result.andThen_ok]
                cases a
                · simp [s3]
                · simpa [s3] using hrest
            exact key len 0 q (by omega) (by simpa using he)
          · cases h
        · cases h
      · cases h

end
end Go.Ax
