/- The library: texts AxArg, AxOwn, AxMath, Flat, Fast, RootL. -/
import Derived.Test.YtjcmnchkgnmooaaAxC
import Derived.OpenShut
/- What a call is handed, as the interpreter's: numbers, bools, structs, arrays, and slices of such, as deep as one likes; no memory need lie apart. -/
set_option linter.unusedVariables false
set_option linter.unusedSimpArgs false
namespace Go.Ax
open Go Go.RowKit Go.ChangeShapes Go.WideShapes

inductive Ty
  | int (k : IntKind)
  | bool
  | slice (e : List Ty)

def fieldsOk (P : Program) (r : TypeId → Option (List Ty)) : List Field → Nat → Option (List Ty)
  | [], _ => some []
  | f :: fs, o => if f.offset = o then (r f.type).bind fun l => if P.cellsOf f.type = l.length then (fieldsOk P r fs (o + l.length)).map (l ++ ·) else none else none

/-- The kinds of a type's cells, in order. -/
def tyCells (P : Program) : Nat → TypeId → Option (List Ty)
  | 0, _ => none
  | d + 1, t => match P.underlying t with
    | some (.int k) => some [.int k]
    | some .bool => some [.bool]
    | some (.slice e) => (tyCells P d e).bind fun l => if P.cellsOf e = l.length ∧ 0 < l.length ∧ 0 < P.bytesOf e then some [.slice l] else none
    | some (.struct fs) => (fieldsOk P (tyCells P d) fs.toList 0).bind fun l => if P.cellsOf t = l.length then some l else none
    | some (.array n e) => (tyCells P d e).bind fun l => if P.cellsOf e = l.length ∧ P.cellsOf t = n * l.length then some (List.replicate n l).flatten else none
    | _ => none

mutual
/-- What a value of a kind is. -/
def Holds (A : AMem) : Ty → Value → Prop
  | .int k, v => ∃ n, v = .int k n ∧ (Lit.int k n).wf = true
  | .bool, v => ∃ b, v = .bool b
  | .slice e, v => ∃ p n, v = .slice p n 0 ∧ n ≤ reachBytes ∧ (0 < n → ∃ a cs, p = some ⟨a, 0, none⟩ ∧ Rd A a cs ∧ cs.length = n * e.length ∧ ∀ i, i < n → HoldsL A e ((cs.drop (i * e.length)).take e.length))
def HoldsL (A : AMem) : List Ty → List Value → Prop
  | [], vs => vs = []
  | t :: ts, vs => ∃ v r, vs = v :: r ∧ Holds A t v ∧ HoldsL A ts r
end

theorem rd_app {A : AMem} {a : Nat} {cs : List Value} (h : Rd A a cs) (B : AMem) : Rd (A ++ B) a cs := let ⟨m, h⟩ := h; ⟨m, get_app_lt h⟩

mutual
theorem Holds.app {A : AMem} (B : AMem) : ∀ (t : Ty) {v : Value}, Holds A t v → Holds (A ++ B) t v
  | .int k, v, h => by simpa only [Holds] using h
  | .bool, v, h => by simpa only [Holds] using h
  | .slice e, v, h => by
    simp only [Holds] at h ⊢
    obtain ⟨p, n, rfl, hx, hn⟩ := h
    refine ⟨p, n, rfl, hx, fun h0 => ?_⟩
    obtain ⟨a, cs, e1, e2, e3, e4⟩ := hn h0
    exact ⟨a, cs, e1, rd_app e2 B, e3, fun i hi => HoldsL.app B e (e4 i hi)⟩
theorem HoldsL.app {A : AMem} (B : AMem) : ∀ (ts : List Ty) {vs : List Value}, HoldsL A ts vs → HoldsL (A ++ B) ts vs
  | [], vs, h => by simpa only [HoldsL] using h
  | t :: ts, vs, h => by
    simp only [HoldsL] at h ⊢
    obtain ⟨v, r, rfl, h1, h2⟩ := h
    exact ⟨v, r, rfl, Holds.app B t h1, HoldsL.app B ts h2⟩
end

theorem HoldsL.length {A : AMem} : ∀ {ts : List Ty} {vs : List Value}, HoldsL A ts vs → vs.length = ts.length
  | [], vs, h => by simp only [HoldsL] at h; simp [h]
  | t :: ts, vs, h => by
    simp only [HoldsL] at h
    obtain ⟨v, r, rfl, _, h2⟩ := h
    simp [HoldsL.length h2]

theorem HoldsL.cat {A : AMem} : ∀ {ts us : List Ty} {vs ws : List Value}, HoldsL A ts vs → HoldsL A us ws → HoldsL A (ts ++ us) (vs ++ ws)
  | [], us, vs, ws, h, k => by simp only [HoldsL] at h; simpa [h] using k
  | t :: ts, us, vs, ws, h, k => by
    simp only [HoldsL] at h
    obtain ⟨v, r, rfl, h1, h2⟩ := h
    rw [List.cons_append]
    simp only [HoldsL]
    exact ⟨v, r ++ ws, rfl, h1, HoldsL.cat h2 k⟩

def AllRo (A : AMem) : Prop := ∀ a, ¬ Wrt A a

section
variable {P : Program} {W : World} {base : Nat}

theorem le_app {A B : AMem} {ι ι' : Iota} (h : ∀ a b o, ι a = some (b, o) → ι' a = some (b, o)) (h2 : ∀ a, a < A.length → ι a = none → ι' a = none) : Le A ι W (A ++ B) ι' W :=
  ⟨fun a ha => get_app_lt ha, fun a b o hi => .inr (h a b o hi), fun b => Nat.le_refl _, fun a cs m hA => .inr ⟨cs, m, get_app_lt hA, Nat.le_refl _, fun _ => rfl⟩, by simp, h2⟩

theorem allRo_app {A : AMem} {x : AObj} (h : AllRo A) (hx : (∃ cs v, x = .cells cs ⟨true, v⟩) ∨ x = .dead) : AllRo (A ++ [x]) := by
  intro a hw
  by_cases ha : a < A.length
  · refine h a ?_
    rcases hw with ⟨cs, m, e, hr⟩ | ⟨l, e⟩ | ⟨k, kv, es, e⟩
    · exact .inl ⟨cs, m, by rwa [List.getElem?_append_left ha] at e, hr⟩
    · exact .inr (.inl ⟨l, by rwa [List.getElem?_append_left ha] at e⟩)
    · exact .inr (.inr ⟨k, kv, es, by rwa [List.getElem?_append_left ha] at e⟩)
  · have key : ∀ y, (A ++ [x])[a]? = some y → y = x := fun y e => by
      rw [List.getElem?_append_right (by omega)] at e
      have := (List.getElem?_eq_some_iff.1 e).1
      simp at this
      rw [show a - A.length = 0 by omega] at e
      simpa using e.symm
    rcases hw with ⟨cs, m, e, hr⟩ | ⟨l, e⟩ | ⟨k, kv, es, e⟩
    · have := key _ e
      rcases hx with ⟨cs', v, rfl⟩ | rfl
      · cases this; cases hr
      · cases this
    · have := key _ e
      rcases hx with ⟨cs', v, rfl⟩ | rfl <;> cases this
    · have := key _ e
      rcases hx with ⟨cs', v, rfl⟩ | rfl <;> cases this

theorem sim_dead {A : AMem} {ι : Iota} (hs : Sim P base A ι W) : Sim P base (A ++ [.dead]) ι W := by
  have hle : Le A ι W (A ++ [.dead]) ι W := le_app (fun _ _ _ h => h) fun _ _ h => h
  have old : ∀ {a b o x}, ι a = some (b, o) → (A ++ [AObj.dead])[a]? = some x → A[a]? = some x := fun hi hx => by
    rwa [List.getElem?_append_left (hs.lt hi)] at hx
  refine ⟨fun a b o hi => ?_, fun a b o cs m hi hA => ?_, fun a b o l hi hA => ?_, fun a b o cs m hi hA => hs.leaf a b o cs m hi (old hi hA), fun a b o k kv es hi hA => hs.map a b o k kv es hi (old hi hA), fun a a' b o o' hne hi hi' hw => ?_⟩
  · obtain ⟨x, hx, hr⟩ := hs.has a b o hi
    exact ⟨x, get_app_lt hx, hr⟩
  · obtain ⟨cs', t, fr, q1, q2, q3, q4⟩ := hs.cells a b o cs m hi (old hi hA)
    exact ⟨cs', t, fr, q1, q2, fun j v e => let ⟨v', w1, w2⟩ := q3 j v e; ⟨v', w1, w2.mono hle⟩, q4⟩
  · obtain ⟨l', q1, q2, q3⟩ := hs.loop a b o l hi (old hi hA)
    exact ⟨l', q1, q2.mono hle, q3⟩
  · refine get_app_lt (hs.sep a a' b o o' hne hi hi' ?_)
    rcases hw with ⟨cs, m, e, hr⟩ | ⟨l, e⟩ | ⟨k, kv, es, e⟩
    · exact .inl ⟨cs, m, old hi e, hr⟩
    · exact .inr (.inl ⟨l, old hi e⟩)
    · exact .inr (.inr ⟨k, kv, es, old hi e⟩)

/-- A row that is only read. -/
theorem sim_ro {A : AMem} {ι : Iota} (hs : Sim P base A ι W) (hro : AllRo A) {b o : Nat} {cs : List Value} {cs' : Array Value} {t : TypeId} {fr : Nat × Nat}
    (hb : W.heap[b]? = some (.cells cs' t fr)) (hl : o + cs.length ≤ cs'.size) (hr : ∀ (j : Nat) (v : Value), cs[j]? = some v → ∃ v', cs'[o + j]? = some v' ∧ VRel A ι W v v') (hlf : cs.all leafV = true) :
    Sim P base (A ++ [.cells cs ⟨true, 0⟩]) (upd ι A.length b o) W := by
  have hup : ∀ a b' o', ι a = some (b', o') → upd ι A.length b o a = some (b', o') := fun a b' o' hi => by
    rw [upd_other _ _ _ _ (Nat.ne_of_lt (hs.lt hi))]; exact hi
  have hle : Le A ι W (A ++ [.cells cs ⟨true, 0⟩]) (upd ι A.length b o) W := le_app hup fun a ha hn => by rw [upd_other _ _ _ _ (Nat.ne_of_lt ha)]; exact hn
  have split : ∀ {a b' o'}, upd ι A.length b o a = some (b', o') → (a = A.length ∧ b' = b ∧ o' = o) ∨ (a < A.length ∧ ι a = some (b', o')) := fun {a b' o'} hi => by
    by_cases e : a = A.length
    · subst e; rw [upd_same] at hi; cases hi; exact .inl ⟨rfl, rfl, rfl⟩
    · rw [upd_other _ _ _ _ e] at hi; exact .inr ⟨hs.lt hi, hi⟩
  have old : ∀ {a x}, a < A.length → (A ++ [AObj.cells cs ⟨true, 0⟩])[a]? = some x → A[a]? = some x := fun hi hx => by
    rwa [List.getElem?_append_left hi] at hx
  have hnew : (A ++ [AObj.cells cs ⟨true, 0⟩])[A.length]? = some (.cells cs ⟨true, 0⟩) := get_new _ _
  refine ⟨fun a b' o' hi => ?_, fun a b' o' cs1 m hi hA => ?_, fun a b' o' l hi hA => ?_, fun a b' o' cs1 m hi hA => ?_, fun a b' o' k kv es hi hA => ?_, fun a a' b' o' o'' hne hi hi' hw => ?_⟩
  · rcases split hi with ⟨rfl, rfl, rfl⟩ | ⟨hlt, hi⟩
    · exact ⟨_, hnew, by simp⟩
    · obtain ⟨x, hx, hr⟩ := hs.has a b' o' hi
      exact ⟨x, get_app_lt hx, hr⟩
  · rcases split hi with ⟨rfl, rfl, rfl⟩ | ⟨hlt, hi⟩
    · rw [hnew] at hA; cases hA
      exact ⟨cs', t, fr, hb, hl, fun j v e => let ⟨v', w1, w2⟩ := hr j v e; ⟨v', w1, w2.mono hle⟩, fun h => by cases h⟩
    · obtain ⟨cs2, t, fr, q1, q2, q3, q4⟩ := hs.cells a b' o' cs1 m hi (old hlt hA)
      exact ⟨cs2, t, fr, q1, q2, fun j v e => let ⟨v', w1, w2⟩ := q3 j v e; ⟨v', w1, w2.mono hle⟩, q4⟩
  · rcases split hi with ⟨rfl, rfl, rfl⟩ | ⟨hlt, hi⟩
    · rw [hnew] at hA; cases hA
    · exact absurd (.inr (.inl ⟨l, old hlt hA⟩)) (hro a)
  · rcases split hi with ⟨rfl, rfl, rfl⟩ | ⟨hlt, hi⟩
    · rw [hnew] at hA; cases hA; exact hlf
    · exact hs.leaf a b' o' cs1 m hi (old hlt hA)
  · rcases split hi with ⟨rfl, rfl, rfl⟩ | ⟨hlt, hi⟩
    · rw [hnew] at hA; cases hA
    · exact absurd (.inr (.inr ⟨k, kv, es, old hlt hA⟩)) (hro a)
  · exact absurd hw (allRo_app hro (.inl ⟨_, _, rfl⟩) a)

/-- What has come of it. -/
structure Got (P : Program) (W : World) (base : Nat) (A : AMem) (ι : Iota) (B : AMem) (ι' : Iota) : Prop where
  sim : Sim P base (A ++ B) ι' W
  ro : AllRo (A ++ B)
  iota : ∀ a b o, ι a = some (b, o) → ι' a = some (b, o)
  none : ∀ a, a < A.length → ι a = none → ι' a = none

theorem Got.le {A : AMem} {ι : Iota} {B : AMem} {ι' : Iota} (h : Got P W base A ι B ι') : Le A ι W (A ++ B) ι' W := le_app h.iota h.none

structure GotL (W : World) (A : AMem) (ι : Iota) (ts : List Ty) (cs0 cs : List Value) : Prop where
  rel : LRel A ι W cs0 cs
  holds : HoldsL A ts cs0
  leaf : cs0.all leafV = true

theorem GotL.mono {A : AMem} {ι : Iota} {B : AMem} {ι' : Iota} {ts : List Ty} {cs0 cs : List Value} (h : GotL W A ι ts cs0 cs) (g : Got P W base A ι B ι') : GotL W (A ++ B) ι' ts cs0 cs :=
  ⟨h.rel.mono g.le, h.holds.app B, h.leaf⟩

theorem GotL.cat {A : AMem} {ι : Iota} {ts us : List Ty} {cs0 cs ds0 ds : List Value} (h : GotL W A ι ts cs0 cs) (k : GotL W A ι us ds0 ds) : GotL W A ι (ts ++ us) (cs0 ++ ds0) (cs ++ ds) :=
  ⟨h.rel.append k.rel, h.holds.cat k.holds, by rw [List.all_append, h.leaf, k.leaf]; rfl⟩

variable {H : Type} {enc : TypeId × Value → H} {sp : Nat → Bool} {held : Bool}

theorem weightsAll_mem {e : TypeId} : ∀ {l : List (DataW H)} {i : Nat} {d : DataW H}, l[i]? = some d → ∀ n ∈ d.weights P e, n ∈ DataW.weightsAll P e l
  | a :: l, 0, d, h, n, hn => by
    simp only [List.getElem?_cons_zero, Option.some.injEq] at h
    subst h
    simp only [DataW.weightsAll, List.mem_append]
    exact .inl hn
  | a :: l, i + 1, d, h, n, hn => by
    simp only [List.getElem?_cons_succ] at h
    simp only [DataW.weightsAll, List.mem_append]
    exact .inr (weightsAll_mem h n hn)
  | [], _, _, h, _, _ => by simp at h

/-- What is asked of a type. -/
def ImpOk (P : Program) (W : World) (base : Nat) (enc : TypeId × Value → H) (sp : Nat → Bool) (held : Bool) (t : TypeId) (ts : List Ty) : Prop :=
  ∀ (fuel : Nat) (cs : List Value) (x : DataW H × List MemPlace), DataW.trod enc P W 0 sp held fuel t cs = some x → Sz P t x.1 → ∀ (A : AMem) (ι : Iota), Sim P base A ι W → AllRo A →
    ∃ B ι' cs0, Got P W base A ι B ι' ∧ GotL W (A ++ B) ι' ts cs0 cs

/-- Parts, one behind the other. -/
theorem imp_parts : ∀ (l : List (List Ty × List Value)),
    (∀ p ∈ l, ∃ t, ImpOk P W base enc sp held t p.1 ∧ ∃ fuel x, DataW.trod enc P W 0 sp held fuel t p.2 = some x ∧ Sz P t x.1) → ∀ (A : AMem) (ι : Iota), Sim P base A ι W → AllRo A →
    ∃ (B : AMem) (ι' : Iota) (css0 : List (List Value)), Got P W base A ι B ι' ∧ css0.length = l.length ∧ ∀ (i : Nat) p c, l[i]? = some p → css0[i]? = some c → GotL W (A ++ B) ι' p.1 c p.2
  | [], _, A, ι, hs, hro => ⟨[], ι, [], ⟨by simpa using hs, by simpa using hro, fun _ _ _ h => h, fun _ _ h => h⟩, rfl, fun i p c h => by simp at h⟩
  | p :: l, h, A, ι, hs, hro => by
    obtain ⟨t, hi, fuel, x, hx, hz⟩ := h p (by simp)
    obtain ⟨B, ι1, c0, g, gl⟩ := hi fuel p.2 x hx hz A ι hs hro
    obtain ⟨B2, ι2, css0, g2, hl, hg⟩ := imp_parts l (fun q hq => h q (by simp [hq])) (A ++ B) ι1 g.sim g.ro
    refine ⟨B ++ B2, ι2, c0 :: css0, ⟨by rw [← List.append_assoc]; exact g2.sim, by rw [← List.append_assoc]; exact g2.ro, fun a b o e => g2.iota a b o (g.iota a b o e), fun a ha hn => g2.none a (by rw [List.length_append]; omega) (g.none a ha hn)⟩, by simp [hl], fun i q c e1 e2 => ?_⟩
    rw [← List.append_assoc]
    cases i with
    | zero => simp at e1 e2; subst e1; subst e2; exact gl.mono g2
    | succ i => simp at e1 e2; exact hg i q c e1 e2

theorem gotL_flatten {A : AMem} {ι : Iota} : ∀ (l : List (List Ty × List Value)) (css0 : List (List Value)), css0.length = l.length →
    (∀ (i : Nat) p c, l[i]? = some p → css0[i]? = some c → GotL W A ι p.1 c p.2) → GotL W A ι (l.map (·.1)).flatten css0.flatten (l.map (·.2)).flatten
  | [], [], _, _ => ⟨LRel.nil, by simp [HoldsL], rfl⟩
  | [], c :: css0, h, _ => by simp at h
  | p :: l, [], h, _ => by simp at h
  | p :: l, c :: css0, h, hg => by
    have h1 := hg 0 p c rfl rfl
    have h2 := gotL_flatten l css0 (by simpa using h) fun i q d e1 e2 => hg (i + 1) q d (by simpa using e1) (by simpa using e2)
    simpa using h1.cat h2

/-- A part of equal parts. -/
theorem part_of {α : Type} {k : Nat} : ∀ (css : List (List α)), (∀ c ∈ css, c.length = k) → ∀ (i : Nat) c, css[i]? = some c → (css.flatten.drop (i * k)).take k = c
  | [], _, i, c, h => by simp at h
  | d :: css, hk, i, c, h => by
    have hd := hk d (by simp)
    cases i with
    | zero =>
      simp at h; subst h
      simp [← hd]
    | succ i =>
      have := part_of css (fun c hc => hk c (by simp [hc])) i c (by simpa using h)
      rw [List.flatten_cons, show (i + 1) * k = d.length + i * k by rw [hd, Nat.succ_mul, Nat.add_comm], List.drop_append]
      rw [List.drop_eq_nil_of_le (by omega), List.nil_append, Nat.add_sub_cancel_left]
      exact this

theorem flat_length {α : Type} {k : Nat} : ∀ (css : List (List α)), (∀ c ∈ css, c.length = k) → css.flatten.length = css.length * k
  | [], _ => by simp
  | d :: css, hk => by
    rw [List.flatten_cons, List.length_append, flat_length css (fun c hc => hk c (by simp [hc])), hk d (by simp), List.length_cons, Nat.succ_mul, Nat.add_comm]

/-- Fields, one behind the other. -/
theorem imp_fields {n : Nat} {r : TypeId → Option (List Ty)} (ih : ∀ t ts, r t = some ts → ImpOk P W base enc sp held t ts) (cs : List Value) :
    ∀ (fs : List Field) (o : Nat) (ts : List Ty), fieldsOk P r fs o = some ts → o + ts.length ≤ cs.length →
    (∀ f ∈ fs, ∃ x, DataW.trod enc P W 0 sp held n f.type ((cs.drop f.offset).take (P.cellsOf f.type)) = some x ∧ Sz P f.type x.1) →
    ∃ l : List (List Ty × List Value), (l.map (·.1)).flatten = ts ∧ (l.map (·.2)).flatten = (cs.drop o).take ts.length ∧ ∀ p ∈ l, ∃ t, ImpOk P W base enc sp held t p.1 ∧ ∃ fuel x, DataW.trod enc P W 0 sp held fuel t p.2 = some x ∧ Sz P t x.1
  | [], o, ts, h, _, _ => by
    simp only [fieldsOk, Option.some.injEq] at h
    subst h
    exact ⟨[], rfl, by simp, fun p hp => by simp at hp⟩
  | f :: fs, o, ts, h, ho, hx => by
    unfold fieldsOk at h
    split at h
    · rename_i hfo
      obtain ⟨l0, h1, h2⟩ := Option.bind_eq_some_iff.1 h
      split at h2
      · rename_i hc
        obtain ⟨us, h3, h4⟩ := Option.map_eq_some_iff.1 h2
        subst h4
        rw [List.length_append] at ho
        obtain ⟨l, e1, e2, e3⟩ := imp_fields ih cs fs (o + l0.length) us h3 (by omega) fun f hf => hx f (by simp [hf])
        obtain ⟨x, hx0, hz0⟩ := hx f (by simp)
        rw [hfo, hc] at hx0
        refine ⟨(l0, (cs.drop o).take l0.length) :: l, by simp [e1], ?_, fun p hp => ?_⟩
        · rw [List.map_cons, List.flatten_cons, e2, List.length_append, List.take_add, List.drop_drop]
        · rcases List.mem_cons.1 hp with rfl | hp
          · exact ⟨f.type, ih _ _ h1, n, x, hx0, hz0⟩
          · exact e3 p hp
      · cases h2
    · cases h

theorem one_leaf {A : AMem} {ι : Iota} {t : Ty} {v v' : Value} (h : VRel A ι W v v') (hh : Holds A t v) (hl : leafV v = true) : GotL W A ι [t] [v] [v'] :=
  ⟨LRel.cons h LRel.nil, by simp only [HoldsL]; exact ⟨v, [], rfl, hh, rfl⟩, by simp [hl]⟩

theorem got_refl {A : AMem} {ι : Iota} (hs : Sim P base A ι W) (hro : AllRo A) : Got P W base A ι [] ι := ⟨by simpa using hs, by simpa using hro, fun _ _ _ h => h, fun _ _ h => h⟩

theorem imp_ok : ∀ (d : Nat) (t : TypeId) (ts : List Ty), tyCells P d t = some ts → ImpOk P W base enc sp held t ts := by
  intro d
  induction d with
  | zero => intro t ts h; simp [tyCells] at h
  | succ d ih =>
    intro t ts h fuel cs x hx hz A ι hs hro
    unfold tyCells at h
    split at h
    · rename_i k ht
      cases h
      obtain ⟨n, rfl, rfl, hw⟩ := DataW.trod_int ht hx
      exact ⟨[], ι, [.int k n], got_refl hs hro, one_leaf (.flat _ rfl) (by simp only [Holds]; exact ⟨n, rfl, hw⟩) rfl⟩
    · rename_i ht
      cases h
      obtain ⟨b, rfl, rfl⟩ := DataW.trod_bool ht hx
      exact ⟨[], ι, [.bool b], got_refl hs hro, one_leaf (.flat _ rfl) (by simp only [Holds]; exact ⟨b, rfl⟩) rfl⟩
    · rename_i e ht
      obtain ⟨l, hl, h2⟩ := Option.bind_eq_some_iff.1 h
      split at h2
      · rename_i hc
        cases h2
        rcases DataW.trod_slice ht hx with ⟨rfl, _⟩ | ⟨a, len, cap, elems, rest, n, _, rfl, hxd, hb, hlc, hcm, hlen, hel, _, _⟩
        · exact ⟨[], ι, [.slice none 0 0], got_refl hs hro, one_leaf (.flat _ rfl) (by simp only [Holds]; exact ⟨none, 0, rfl, Nat.zero_le _, fun h => by omega⟩) rfl⟩
        · have hz' : ∀ k ∈ (elems.length + rest.length) * P.bytesOf e :: (DataW.weightsAll P e (elems.map (·.1)) ++ DataW.weightsAll P e (rest.map (·.1))), k ≤ reachBytes := by
            have := hz
            unfold Sz at this
            rw [hxd] at this
            simpa [DataW.weights, ht] using this
          have hlr : len ≤ reachBytes := by
            have h1 := hz' _ List.mem_cons_self
            have h2 : (elems.length + rest.length) * 1 ≤ (elems.length + rest.length) * P.bytesOf e := Nat.mul_le_mul_left _ hc.2.2
            omega
          by_cases h0 : len = 0
          · subst h0
            refine ⟨[.dead], ι, [.slice (some ⟨A.length, 0, none⟩) 0 0], ⟨sim_dead hs, allRo_app hro (.inr rfl), fun _ _ _ h => h, fun _ _ h => h⟩, one_leaf (.sliceDead _ _ _ _ _ (get_new _ _) rfl (Nat.zero_le _)) ?_ rfl⟩
            simp only [Holds]
            exact ⟨_, 0, rfl, Nat.zero_le _, fun h => by omega⟩
          · -- the cells of each element
            have each : ∀ i, i < len → ∃ ci x, W.cells? 0 (a.add (i * P.cellsOf e)) (P.cellsOf e) = some ci ∧ DataW.trod enc P W 0 sp held n e ci = some x ∧ Sz P e x.1 := fun i hi => by
              have := hel i hi
              rw [List.getElem?_eq_getElem (by omega)] at this
              obtain ⟨ci, q1, q2⟩ := Option.bind_eq_some_iff.1 this
              refine ⟨ci, _, q1, q2, fun k hk => hz' k ?_⟩
              simp only [List.mem_cons, List.mem_append]
              exact .inr (.inl (weightsAll_mem (i := i) (d := (elems[i]'(by omega)).1) (by simp [List.getElem?_eq_getElem (show i < elems.length by omega)]) k hk))
            let ce : Nat → List Value := fun i => (W.cells? 0 (a.add (i * P.cellsOf e)) (P.cellsOf e)).getD []
            have hce : ∀ i, i < len → W.cells? 0 (a.add (i * P.cellsOf e)) (P.cellsOf e) = some (ce i) ∧ ∃ x, DataW.trod enc P W 0 sp held n e (ce i) = some x ∧ Sz P e x.1 := fun i hi => by
              obtain ⟨ci, x, q1, q2⟩ := each i hi
              simp only [ce, q1, Option.getD_some]
              exact ⟨trivial, x, q2⟩
            have hcl : ∀ i, i < len → (ce i).length = l.length := fun i hi => by
              rw [← hc.1]; exact (World.cells?_some (hce i hi).1).2.1
            have hsp : a.spot = none := by
              have h1 := (World.cells?_some (hce 0 (by omega)).1).2.2 0 (by omega)
              rw [List.getElem?_eq_getElem (by rw [hcl 0 (by omega)]; omega)] at h1
              have := World.cell?_spot h1
              simpa [Addr.add] using this
            obtain ⟨ab, ao, asp⟩ := a
            simp only at hsp; subst hsp
            let L : List (List Ty × List Value) := (List.range len).map fun i => (l, ce i)
            obtain ⟨B, ι1, css0, g, hcl0, hg⟩ := imp_parts L (fun p hp => by
              obtain ⟨i, hi, rfl⟩ := List.mem_map.1 hp
              exact ⟨e, ih e l hl, n, (hce i (by simpa using hi)).2⟩) A ι hs hro
            have hLl : L.length = len := by simp [L]
            have hLi : ∀ i, i < len → L[i]? = some (l, ce i) := fun i hi => by simp [L, hi]
            have hci : ∀ i c, css0[i]? = some c → i < len ∧ GotL W (A ++ B) ι1 l c (ce i) := fun i c h => by
              have hi : i < len := by have := (List.getElem?_eq_some_iff.1 h).1; omega
              exact ⟨hi, hg i _ c (hLi i hi) h⟩
            have hkl : ∀ c ∈ css0, c.length = l.length := fun c hc => by
              obtain ⟨i, hi⟩ := List.getElem?_of_mem hc
              exact (hci i c hi).2.holds.length
            have hfl : css0.flatten.length = len * l.length := by rw [flat_length css0 hkl, hcl0, hLl]
            have hflat := gotL_flatten L css0 hcl0 hg
            have hreal : ∀ j v, (L.map (·.2)).flatten[j]? = some v → W.cell? ⟨ab, ao + j, none⟩ = some v := fun j v hv => by
              have hk : ∀ c ∈ L.map (·.2), c.length = l.length := fun c hc' => by
                obtain ⟨p, hp, rfl⟩ := List.mem_map.1 hc'
                obtain ⟨i, hi, rfl⟩ := List.mem_map.1 hp
                exact hcl i (by simpa using hi)
              have hll := flat_length _ hk
              rw [List.length_map, hLl] at hll
              have hj : j < len * l.length := by rw [← hll]; exact (List.getElem?_eq_some_iff.1 hv).1
              have hd : j / l.length < len := (Nat.div_lt_iff_lt_mul hc.2.1).2 hj
              have hp := part_of _ hk (j / l.length) (ce (j / l.length)) (by simp [hLi _ hd])
              have hjm : j / l.length * l.length + j % l.length = j := by rw [Nat.mul_comm]; exact Nat.div_add_mod j l.length
              have hmod := Nat.mod_lt j hc.2.1
              have hv2 : (ce (j / l.length))[j % l.length]? = some v := by
                rw [← hp, List.getElem?_take_of_lt hmod, List.getElem?_drop, hjm]; exact hv
              have h3 := (World.cells?_some (hce _ hd).1).2.2 (j % l.length) (by rw [hc.1]; exact hmod)
              rw [hv2, hc.1, addr_add, addr_add, Nat.add_assoc, hjm] at h3
              exact h3
            -- the block
            have hpos : 0 < len * l.length := Nat.mul_pos (by omega) hc.2.1
            have hrl : (L.map (·.2)).flatten.length = len * l.length := by rw [← hfl]; exact hflat.rel.1.symm
            obtain ⟨cs', tt, fr, hbk, hbl⟩ : ∃ cs' tt fr, W.heap[ab]? = some (.cells cs' tt fr) ∧ ∀ j v, (L.map (·.2)).flatten[j]? = some v → cs'[ao + j]? = some v := by
              have h1 := hreal 0 _ (List.getElem?_eq_getElem (by omega))
              unfold World.cell? at h1
              split at h1
              · rename_i cs' tt fr hbk
                refine ⟨cs', tt, fr, hbk, fun j v hv => ?_⟩
                have := hreal j v hv
                simpa [World.cell?, hbk] using this
              · cases h1
            have hsz : ao + css0.flatten.length ≤ cs'.size := by
              rw [hfl]
              have := hbl (len * l.length - 1) _ (List.getElem?_eq_getElem (by omega))
              have := (Array.getElem?_eq_some_iff.1 this).1
              omega
            have hs2 := sim_ro g.sim g.ro hbk hsz (fun j v hv => by
              obtain ⟨v', q1, q2⟩ := hflat.rel.get hv
              exact ⟨v', hbl j v' q1, q2⟩) hflat.leaf
            have hg2 : Got P W base (A ++ B) ι1 [.cells css0.flatten ⟨true, 0⟩] (upd ι1 (A ++ B).length ab ao) :=
              ⟨hs2, allRo_app g.ro (.inl ⟨_, _, rfl⟩), fun a b o e => by rw [upd_other _ _ _ _ (Nat.ne_of_lt (g.sim.lt e))]; exact e, fun a ha hn => by rw [upd_other _ _ _ _ (Nat.ne_of_lt ha)]; exact hn⟩
            refine ⟨B ++ [.cells css0.flatten ⟨true, 0⟩], upd ι1 (A ++ B).length ab ao, [.slice (some ⟨(A ++ B).length, 0, none⟩) len 0],
              ⟨by rw [← List.append_assoc]; exact hg2.sim, by rw [← List.append_assoc]; exact hg2.ro, fun a b o e => hg2.iota a b o (g.iota a b o e), fun a ha hn => hg2.none a (by rw [List.length_append]; omega) (g.none a ha hn)⟩, one_leaf ?_ ?_ rfl⟩
            · exact VRel.slice ⟨(A ++ B).length, 0, none⟩ len 0 cap ab ao (upd_same _ _ _) rfl hlc (fun h => absurd rfl h)
            · simp only [Holds]
              refine ⟨_, len, rfl, hlr, fun _ => ⟨(A ++ B).length, css0.flatten, rfl, ⟨⟨true, 0⟩, by rw [← List.append_assoc]; exact get_new _ _⟩, hfl, fun i hi => ?_⟩⟩
              have hic : css0[i]? = some (css0[i]'(by omega)) := List.getElem?_eq_getElem (by omega)
              rw [part_of css0 hkl i _ hic, ← List.append_assoc]
              exact ((hci i _ hic).2.holds).app _
      · cases h2
    · rename_i fs ht
      obtain ⟨l, hl, h2⟩ := Option.bind_eq_some_iff.1 h
      split at h2
      · rename_i hc
        cases h2
        obtain ⟨xs, n, _, hxd, hcl, hxl, hf⟩ := DataW.trod_struct ht hx
        obtain ⟨L, e1, e2, e3⟩ := imp_fields (n := n) ih cs fs.toList 0 ts hl (by omega) fun f hf' => by
          obtain ⟨i, hi⟩ := List.getElem?_of_mem hf'
          have hi' : fs[i]? = some f := by simpa using hi
          have := hf i f hi'
          have hlt := (Array.getElem?_eq_some_iff.1 hi').1
          rw [List.getElem?_eq_getElem (by omega)] at this
          refine ⟨_, this, fun k hk => hz k ?_⟩
          rw [hxd]
          simp only [DataW.weights, ht]
          exact DataW.weights_mem_each (j := i) (t := f.type) (by rw [List.getElem?_map, hi]; rfl) (by rw [List.getElem?_map, List.getElem?_eq_getElem (by omega)]; rfl) k hk
        obtain ⟨B, ι1, css0, g, hcl0, hg⟩ := imp_parts L e3 A ι hs hro
        have := gotL_flatten L css0 hcl0 hg
        rw [e1, e2] at this
        refine ⟨B, ι1, css0.flatten, g, ?_⟩
        rwa [List.drop_zero, List.take_of_length_le (by omega)] at this
      · cases h2
    · rename_i n e ht
      obtain ⟨l, hl, h2⟩ := Option.bind_eq_some_iff.1 h
      split at h2
      · rename_i hc
        cases h2
        obtain ⟨xs, m, _, hxd, hcl, hxl, hf⟩ := DataW.trod_array ht hx
        let L : List (List Ty × List Value) := (List.range n).map fun i => (l, (cs.drop (i * l.length)).take l.length)
        obtain ⟨B, ι1, css0, g, hcl0, hg⟩ := imp_parts L (fun p hp => by
          obtain ⟨i, hi, rfl⟩ := List.mem_map.1 hp
          have hin : i < n := by simpa using hi
          have := hf i hin
          rw [List.getElem?_eq_getElem (by omega), hc.1] at this
          refine ⟨e, ih e l hl, m, _, this, fun k hk => hz k ?_⟩
          rw [hxd]
          simp only [DataW.weights, ht]
          exact weightsAll_mem (i := i) (by rw [List.getElem?_map, List.getElem?_eq_getElem (by omega)]; rfl) k hk) A ι hs hro
        have hfl := gotL_flatten L css0 hcl0 hg
        have e1 : (L.map (·.1)).flatten = (List.replicate n l).flatten := by
          simp only [L, List.map_map]
          congr 1
          exact List.ext_getElem (by simp) fun i h1 h2 => by simp
        have e2 : ∀ k, k ≤ n → ((List.range k).map fun i => (cs.drop (i * l.length)).take l.length).flatten = cs.take (k * l.length) := by
          intro k
          induction k with
          | zero => intro _; simp
          | succ k ihk =>
            intro hk
            rw [List.range_succ, List.map_append, List.flatten_append, ihk (by omega), Nat.succ_mul, List.take_add]
            simp
        have e3 : (L.map (·.2)).flatten = cs := by
          have := e2 n (Nat.le_refl _)
          rw [← hc.2, ← hcl, List.take_length] at this
          rw [← this]
          simp only [L, List.map_map]
          rfl
        rw [e1, e3] at hfl
        exact ⟨B, ι1, css0.flatten, g, hfl⟩
      · cases h2
    · cases h

/-! ### whole arguments -/

/-- Is a value of the type a struct's or an array's? -/
def aggB (P : Program) (t : TypeId) : Bool := isAggT P t

def topTy (P : Program) (t : TypeId) : Option (Bool × List Ty) := (tyCells P 8 t).bind fun l => if aggB P t || l.length == 1 then some (aggB P t, l) else none

/-- What an argument is. -/
def HoldsV (A : AMem) (T : Bool × List Ty) (v : Value) : Prop :=
  if T.1 then ∃ cs, v = .agg cs ∧ HoldsL A T.2 cs.toList else HoldsL A T.2 [v]

def HoldsA (A : AMem) : List (Bool × List Ty) → List Value → Prop
  | [], vs => vs = []
  | T :: Ts, vs => ∃ v r, vs = v :: r ∧ HoldsV A T v ∧ HoldsA A Ts r

theorem HoldsV.app {A : AMem} (B : AMem) {T : Bool × List Ty} {v : Value} (h : HoldsV A T v) : HoldsV (A ++ B) T v := by
  unfold HoldsV at h ⊢
  split at h
  · rename_i ht; rw [if_pos ht]
    obtain ⟨cs, e, h⟩ := h
    exact ⟨cs, e, h.app B⟩
  · rename_i ht; rw [if_neg ht]
    exact HoldsL.app B _ h

theorem imp_one {t : TypeId} {T : Bool × List Ty} (hT : topTy P t = some T) {b0 : Nat} {r : Reach} {v : Value} (hval : Value.okWide P W r b0 t v) {d : DataW H} {ps : List MemPlace}
    (h : DataW.Trod enc P W 0 sp held t v d ps) (hz : Sz P t d) (A : AMem) (ι : Iota) (hs : Sim P base A ι W) (hro : AllRo A) :
    ∃ B ι' v0, Got P W base A ι B ι' ∧ VRel (A ++ B) ι' W v0 v ∧ HoldsV (A ++ B) T v0 := by
  obtain ⟨fuel, hx⟩ := h
  unfold topTy at hT
  obtain ⟨l, hl, hT⟩ := Option.bind_eq_some_iff.1 hT
  split at hT
  · rename_i hc
    cases hT
    obtain ⟨B, ι', cs0, g, gl⟩ := imp_ok 8 t l hl fuel _ _ hx hz A ι hs hro
    rw [cells_toList] at gl
    cases hag : aggB P t with
    | true =>
      have : ∃ cs, v = .agg cs := by
        unfold aggB isAggT at hag
        unfold Value.okWide at hval
        split at hag <;> rename_i hu
        · simp only [hu] at hval; obtain ⟨cs, e, _⟩ := hval; exact ⟨cs, e⟩
        · simp only [hu] at hval; obtain ⟨cs, e, _⟩ := hval; exact ⟨cs, e⟩
        · cases hag
      obtain ⟨cs, rfl⟩ := this
      refine ⟨B, ι', .agg cs0.toArray, g, agg_of_LRel gl.rel, ?_⟩
      unfold HoldsV
      rw [if_pos rfl]
      exact ⟨_, rfl, by simpa using gl.holds⟩
    | false =>
      rw [hag, Bool.false_or] at hc
      have hl1 : cs0.length = 1 := by rw [gl.holds.length]; simpa using hc
      obtain ⟨v0, rfl⟩ : ∃ v0, cs0 = [v0] := by
        cases cs0 with
        | nil => simp at hl1
        | cons a r => cases r with
          | nil => exact ⟨a, rfl⟩
          | cons b r => simp at hl1
      have hv : cellsL v = [v] := by
        cases v with
        | agg cs =>
          exfalso
          cases fuel with
          | zero => simp [DataW.trod] at hx
          | succ n =>
            unfold tyCells at hl
            unfold aggB isAggT at hag
            unfold Value.okWide at hval
            split at hl <;> rename_i hu
            · simp [hu, Cell.okWide, Cell.ok] at hval
            · simp [hu, Cell.okWide, Cell.ok] at hval
            · simp [hu, Cell.okWide, Cell.ok] at hval
            · simp [hu] at hag
            · simp [hu] at hag
            · cases hl
        | _ => rfl
      rw [hv] at gl
      refine ⟨B, ι', v0, g, gl.rel.2 0 _ _ rfl rfl, ?_⟩
      unfold HoldsV
      rw [if_neg (by simp)]
      exact gl.holds
  · cases hT

theorem imp_all : ∀ (ts : List TypeId) (Ts : List (Bool × List Ty)), ts.mapM (topTy P) = some Ts → ∀ {b0 : Nat} {r : Reach} {vs : List Value}, (∀ (j : Nat) t v, ts[j]? = some t → vs[j]? = some v → Value.okWide P W r b0 t v) →
    ∀ {ds : List (DataW H)} {ps : List MemPlace}, DataW.TrodAll enc P W 0 sp held ts vs ds ps → (∀ (j : Nat) t d, ts[j]? = some t → ds[j]? = some d → Sz P t d) → ∀ (A : AMem) (ι : Iota), Sim P base A ι W → AllRo A →
    ∃ B ι' vs0, Got P W base A ι B ι' ∧ LRel (A ++ B) ι' W vs0 vs ∧ HoldsA (A ++ B) Ts vs0
  | [], Ts, hT, b0, r, vs, hval, ds, ps, h, hz, A, ι, hs, hro => by
    simp at hT; subst hT
    obtain ⟨rfl, rfl, rfl⟩ := trodAll_nil h
    exact ⟨[], ι, [], got_refl hs hro, LRel.nil, rfl⟩
  | t :: ts, Ts, hT, b0, r, vs, hval, ds, ps, h, hz, A, ι, hs, hro => by
    obtain ⟨v, vs', d, ds', p, q, rfl, rfl, rfl, h1, h2⟩ := trodAll_cons h
    rw [List.mapM_cons] at hT
    simp only [Option.bind_eq_bind, Option.pure_def] at hT
    obtain ⟨T, e1, e2⟩ := Option.bind_eq_some_iff.1 hT
    obtain ⟨Ts', e3, e4⟩ := Option.bind_eq_some_iff.1 e2
    cases e4
    obtain ⟨B, ι1, v0, g, hr, hh⟩ := imp_one e1 (hval 0 t v rfl rfl) h1 (hz 0 t d rfl rfl) A ι hs hro
    obtain ⟨B2, ι2, vs0, g2, hr2, hh2⟩ := imp_all ts Ts' e3 (fun j t v a b => hval (j + 1) t v (by simpa using a) (by simpa using b)) h2 (fun j t d a b => hz (j + 1) t d (by simpa using a) (by simpa using b)) (A ++ B) ι1 g.sim g.ro
    refine ⟨B ++ B2, ι2, v0 :: vs0, ⟨by rw [← List.append_assoc]; exact g2.sim, by rw [← List.append_assoc]; exact g2.ro, fun a b o e => g2.iota a b o (g.iota a b o e), fun a ha hn => g2.none a (by rw [List.length_append]; omega) (g.none a ha hn)⟩, ?_, ?_⟩
    · rw [← List.append_assoc]; exact LRel.cons (hr.mono g2.le) hr2
    · rw [← List.append_assoc]; exact ⟨v0, vs0, rfl, hh.app B2, hh2⟩

theorem sim_nil : Sim P base [] (fun _ => none) W := ⟨fun _ _ _ h => (by cases h), fun _ _ _ _ _ h => (by cases h), fun _ _ _ _ h => (by cases h), fun _ _ _ _ _ h => (by cases h), fun _ _ _ _ _ _ h => (by cases h), fun _ _ _ _ _ _ h => (by cases h)⟩

theorem allRo_nil : AllRo [] := fun a h => by rcases h with ⟨_, _, h, _⟩ | ⟨_, h⟩ | ⟨_, _, _, h⟩ <;> simp at h

def flatTyB : Ty → Bool
  | .int _ => true
  | .bool => true
  | .slice _ => false

theorem holds_flat {A : AMem} {t : Ty} (ht : flatTyB t = true) {v : Value} (h : Holds A t v) : flatLeaf v = true ∧ Holds [] t v := by
  cases t with
  | int k => simp only [Holds] at h ⊢; obtain ⟨n, rfl, hw⟩ := h; exact ⟨rfl, n, rfl, hw⟩
  | bool => simp only [Holds] at h ⊢; obtain ⟨b, rfl⟩ := h; exact ⟨rfl, b, rfl⟩
  | slice e => simp [flatTyB] at ht

theorem holdsL_flat {A : AMem} : ∀ {ts : List Ty}, ts.all flatTyB = true → ∀ {vs : List Value}, HoldsL A ts vs → vs.all flatLeaf = true ∧ HoldsL [] ts vs
  | [], _, vs, h => by simp only [HoldsL] at h ⊢; subst h; exact ⟨rfl, rfl⟩
  | t :: ts, ht, vs, h => by
    simp only [HoldsL] at h ⊢
    obtain ⟨v, r, rfl, h1, h2⟩ := h
    simp only [List.all_cons, Bool.and_eq_true] at ht ⊢
    obtain ⟨k1, k2⟩ := holds_flat ht.1 h1
    obtain ⟨k3, k4⟩ := holdsL_flat ht.2 h2
    exact ⟨⟨k1, k3⟩, v, r, rfl, k2, k4⟩

theorem holdsV_flat {A : AMem} {T : Bool × List Ty} (ht : T.2.all flatTyB = true) {v : Value} (h : HoldsV A T v) : flatV v = true ∧ HoldsV [] T v := by
  unfold HoldsV at h ⊢
  split at h
  · rename_i hb
    rw [if_pos hb]
    obtain ⟨cs, rfl, h⟩ := h
    obtain ⟨k1, k2⟩ := holdsL_flat ht h
    exact ⟨k1, cs, rfl, k2⟩
  · rename_i hb
    rw [if_neg hb]
    obtain ⟨k1, k2⟩ := holdsL_flat ht h
    refine ⟨?_, k2⟩
    have : flatLeaf v = true := by simpa using k1
    cases v <;> first | exact this | (simp [flatLeaf] at this)

theorem holdsA_flat {A : AMem} : ∀ {Ts : List (Bool × List Ty)}, Ts.all (fun T => T.2.all flatTyB) = true → ∀ {vs : List Value}, HoldsA A Ts vs → vs.all flatV = true ∧ HoldsA [] Ts vs
  | [], _, vs, h => by
    have h' : vs = [] := h
    subst h'; exact ⟨rfl, rfl⟩
  | T :: Ts, ht, vs, h => by
    obtain ⟨v, r, rfl, h1, h2⟩ := h
    simp only [List.all_cons, Bool.and_eq_true] at ht ⊢
    obtain ⟨k1, k2⟩ := holdsV_flat ht.1 h1
    obtain ⟨k3, k4⟩ := holdsA_flat ht.2 h2
    exact ⟨⟨k1, k3⟩, v, r, rfl, k2, k4⟩

theorem lrel_flat {A : AMem} {ι : Iota} : ∀ {l l' : List Value}, LRel A ι W l l' → l.all flatV = true → l' = l
  | [], l', h, _ => h.inv_nil
  | v :: l, l', h, hf => by
    obtain ⟨v', r, rfl, h1, h2⟩ := h.inv
    simp only [List.all_cons, Bool.and_eq_true] at hf
    rw [lrel_flat h2 hf.2, flatV_eq h1 hf.1]

theorem lrel_self {A : AMem} {ι : Iota} : ∀ {l : List Value}, l.all flatV = true → LRel A ι W l l
  | [], _ => LRel.nil
  | v :: l, hf => by
    simp only [List.all_cons, Bool.and_eq_true] at hf
    exact LRel.cons (VRel.flatV' hf.1) (lrel_self hf.2)

end

/-- The row, of the law's answer to what it may be handed. -/
theorem lifted_of_args {H : Type} {enc : TypeId × Value → H} {C : Checked} {os : Os} {f : FuncId} {fn : Func} {s : ChangeSpec} {E : Env} (own : ownKnob C.prog.godebug = none) (started : os.Started)
    (noInit : C.prog.inits.idxOf? f = none) (hfn : C.prog.funcs[f]? = some fn)
    (witness : ∃ (w : World) (tape : Tape) (i : Input), w.os = os ∧ (w.forCall tape i).Shaped C.prog ∧ i.vars = [] ∧ Input.okWide C.prog (w.forCall tape i) .any w.heap.size f i ∧
      s.pre6 enc C.prog fn [] false (w.forCall tape i).memory i.args ∧ ({} : Assume).holds C.prog (lone (Frame.enter C.prog f i.args .normal) [] (w.forCall tape i)))
    (hl : laidOutB C.prog = true) (hpar : fn.params.toList.all (fun t => C.prog.readableRec t && decide (t < C.prog.types.size)) = true) {tb : TypeId} (hres : fn.resultTypes = #[tb]) (hb : C.prog.underlying tb = some .bool)
    (hvars : s.vars = []) (hfnn : ∀ (ds : List (DataW H)), ds.length = fn.params.size → s.fn H ds = { results := [.lit (.bool true)], args := ds })
    (hE : EnvOk C.prog E) (hm : C.prog.follows .mixedOrders = true) {Ts : List (Bool × List Ty)} (hTs : fn.params.toList.mapM (topTy C.prog) = some Ts)
    (main : ∀ (A : AMem) (vs : List Value), HoldsA A Ts vs → ∃ A', (lim E).call f vs A = some (.bool true, A')) :
    ReturnsInHanded {} C os f .any (s.pre6 enc C.prog fn [] false) (s.post enc C.prog fn false true false false) := by
  refine lifted_of_lim own started noInit hfn witness hl hpar hres hb hvars hfnn hE hm fun W base args ds p hval hA hz => ?_
  obtain ⟨B, ι, vs, g, hr, hh⟩ := imp_all (P := C.prog) (W := W) (base := W.heap.size) fn.params.toList Ts hTs (fun j t v a b => hval j t v (by simpa using a) (by simpa using b)) hA hz [] _ sim_nil allRo_nil
  obtain ⟨A', h⟩ := main _ vs hh
  exact ⟨_, ι, vs, A', g.sim, hr, h⟩

/-- The same, of numbers and bools alone: there is no memory. -/
theorem lifted_of_flat {H : Type} {enc : TypeId × Value → H} {C : Checked} {os : Os} {f : FuncId} {fn : Func} {s : ChangeSpec} {E : Env} (own : ownKnob C.prog.godebug = none) (started : os.Started)
    (noInit : C.prog.inits.idxOf? f = none) (hfn : C.prog.funcs[f]? = some fn)
    (witness : ∃ (w : World) (tape : Tape) (i : Input), w.os = os ∧ (w.forCall tape i).Shaped C.prog ∧ i.vars = [] ∧ Input.okWide C.prog (w.forCall tape i) .any w.heap.size f i ∧
      s.pre6 enc C.prog fn [] false (w.forCall tape i).memory i.args ∧ ({} : Assume).holds C.prog (lone (Frame.enter C.prog f i.args .normal) [] (w.forCall tape i)))
    (hl : laidOutB C.prog = true) (hpar : fn.params.toList.all (fun t => C.prog.readableRec t && decide (t < C.prog.types.size)) = true) {tb : TypeId} (hres : fn.resultTypes = #[tb]) (hb : C.prog.underlying tb = some .bool)
    (hvars : s.vars = []) (hfnn : ∀ (ds : List (DataW H)), ds.length = fn.params.size → s.fn H ds = { results := [.lit (.bool true)], args := ds })
    (hE : EnvOk C.prog E) (hm : C.prog.follows .mixedOrders = true) {Ts : List (Bool × List Ty)} (hTs : fn.params.toList.mapM (topTy C.prog) = some Ts) (hflat : Ts.all (fun T => T.2.all flatTyB) = true)
    (main : ∀ (vs : List Value), HoldsA [] Ts vs → ∃ A', (lim E).call f vs [] = some (.bool true, A')) :
    ReturnsInHanded {} C os f .any (s.pre6 enc C.prog fn [] false) (s.post enc C.prog fn false true false false) := by
  refine lifted_of_lim own started noInit hfn witness hl hpar hres hb hvars hfnn hE hm fun W base args ds p hval hA hz => ?_
  obtain ⟨B, ι, vs, g, hr, hh⟩ := imp_all (P := C.prog) (W := W) (base := W.heap.size) fn.params.toList Ts hTs (fun j t v a b => hval j t v (by simpa using a) (by simpa using b)) hA hz [] _ sim_nil allRo_nil
  obtain ⟨k1, k2⟩ := holdsA_flat hflat hh
  obtain ⟨A', h⟩ := main vs k2
  refine ⟨[], _, vs, A', sim_nil, ?_, h⟩
  rw [lrel_flat hr k1]
  exact lrel_self k1

end Go.Ax

/- Slices of one's own: rows that grow. -/
set_option linter.unusedVariables false
set_option linter.unusedSimpArgs false
namespace Go.Ax
open Go

/-- The blocks of a slice. -/
def blk : Option Addr → List Nat
  | none => []
  | some a => [a.block]

@[simp] theorem blk_none : blk none = [] := rfl
@[simp] theorem blk_some (a o : Nat) (s : Option Nat) : blk (some ⟨a, o, s⟩) = [a] := rfl

/-- A slice that was made here, and what lies in it. -/
def Slc (M : AMem) (esz : Nat) (p : Option Addr) (n c : Nat) (cs : List Value) : Prop :=
  cs.length = n * esz ∧ ((p = none ∧ n = 0) ∨ ∃ a, p = some ⟨a, 0, none⟩ ∧ c = esz ∧ Cells M a cs)

theorem Slc.len {M : AMem} {esz n c : Nat} {p : Option Addr} {cs : List Value} (h : Slc M esz p n c cs) : cs.length = n * esz := h.1

theorem Slc.same {M M' : AMem} {S : List Nat} {esz n c : Nat} {p : Option Addr} {cs : List Value} (h : Slc M esz p n c cs) (k : Same M M' S) (hb : ∀ b ∈ blk p, b ∉ S) : Slc M' esz p n c cs := by
  obtain ⟨h1, h2⟩ := h
  refine ⟨h1, ?_⟩
  rcases h2 with h2 | ⟨a, rfl, rfl, h2⟩
  · exact .inl h2
  · exact .inr ⟨a, rfl, rfl, h2.same k (hb a (by simp))⟩

theorem Slc.nil (M : AMem) (esz c : Nat) : Slc M esz none 0 c [] := ⟨by simp, .inl ⟨rfl, rfl⟩⟩

theorem Slc.lt {M : AMem} {esz n c : Nat} {p : Option Addr} {cs : List Value} (h : Slc M esz p n c cs) : ∀ b ∈ blk p, b < M.length := by
  rcases h.2 with ⟨rfl, _⟩ | ⟨a, rfl, _, h2⟩
  · simp
  · intro b hb; simp at hb; subst hb; exact h2.lt

theorem Slc.of {M : AMem} {esz n a : Nat} {cs : List Value} (h : Cells M a cs) (hl : cs.length = n * esz) : Slc M esz (some ⟨a, 0, none⟩) n esz cs := ⟨hl, .inr ⟨a, rfl, rfl, h⟩⟩

/-- Where there is something, there is a block. -/
theorem Slc.pos {M : AMem} {esz n c : Nat} {p : Option Addr} {cs : List Value} (h : Slc M esz p n c cs) (hn : 0 < n) : ∃ a, p = some ⟨a, 0, none⟩ ∧ Cells M a cs := by
  rcases h.2 with ⟨_, h0⟩ | ⟨a, h1, _, h2⟩
  · omega
  · exact ⟨a, h1, h2⟩

theorem Same.app_new {M : AMem} (x : AObj) : Same M (M ++ [x]) [] := same_app M [x]

/-- An append to a slice of one's own. -/
theorem append_own {M : AMem} {esz bytes n c m : Nat} {p : Option Addr} {cs new : List Value} (h : Slc M esz p n c cs) (hnew : new.length = m * esz) (hm : m ≠ 0)
    (hb : n + m ≤ (281474976710656 / (bytes + 1) - 1024) / 2) :
    ∃ M', (∀ K, appendK esz bytes p n c m new M K = K (some ⟨M.length, 0, none⟩) (n + m) esz M') ∧ Slc M' esz (some ⟨M.length, 0, none⟩) (n + m) esz (cs ++ new) ∧ Same M M' (blk p) ∧ M'.length = M.length + 1 := by
  obtain ⟨h1, h2⟩ := h
  rcases h2 with ⟨rfl, rfl⟩ | ⟨a, rfl, rfl, v, h2⟩
  · have : cs = [] := by simpa using h1
    subst this
    refine ⟨M ++ [.cells new ⟨false, 0⟩], fun K => ?_, .of (by simpa using cells_new M new 0) (by simpa using hnew), (same_app M _).mono (by simp), by simp⟩
    rw [appendK_nil _ _ _ _ _ _ _ hm hb, Nat.zero_add]
  · refine ⟨M.set a .dead ++ [.cells (cs ++ new) ⟨false, 0⟩], fun K => ?_, .of ?_ ?_, ?_, by simp⟩
    · rw [appendK_some _ _ _ _ _ _ _ _ _ _ _ hm hb h2 rfl (by omega), List.drop_zero, ← h1, List.take_length]
    · have := cells_new (M.set a .dead) (cs ++ new) 0
      simpa using this
    · rw [List.length_append, h1, hnew, Nat.add_mul]
    · exact ((same_set M a .dead).trans (same_app _ _)).mono (by simp)

/-- A row that was made at once. -/
theorem rowOf_new (M : AMem) (esz n : Nat) (cs : List Value) (v c : Nat) (hl : cs.length = n * esz) :
    rowOf (M ++ [AObj.cells cs ⟨false, v⟩]) esz (.slice (some ⟨List.length M, 0, none⟩) n c) = some cs := by
  rw [rowOf_some ⟨_, get_new _ _⟩ (by omega), List.drop_zero, ← hl, List.take_length]

/-- An append of a row that was made at once: the usual one. -/
theorem append_row {M : AMem} {esz bytes n c m : Nat} {p : Option Addr} {cs new : List Value} {v : Nat} (h : Slc M esz p n c cs) (hnew : new.length = m * esz) (hm : m ≠ 0)
    (hb : n + m ≤ (281474976710656 / (bytes + 1) - 1024) / 2) :
    ∃ M', (∀ K, appendK esz bytes p n c m new (M ++ [AObj.cells new ⟨false, v⟩]) K = K (some ⟨M.length + 1, 0, none⟩) (n + m) esz M') ∧
      Slc M' esz (some ⟨M.length + 1, 0, none⟩) (n + m) esz (cs ++ new) ∧ Same M M' (blk p) ∧ M'.length = M.length + 2 := by
  have hs := same_app M [AObj.cells new ⟨false, v⟩]
  obtain ⟨M', h1, h2, h3, h4⟩ := append_own (M := M ++ [AObj.cells new ⟨false, v⟩]) (bytes := bytes) (h.same hs (by simp)) hnew hm hb
  simp only [List.length_append, List.length_cons, List.length_nil, Nat.zero_add] at h1 h2 h4
  exact ⟨M', h1, h2, (hs.trans h3).mono (by simp), by omega⟩

/-- A slice that has grown: its old block alone is lost. -/
structure Grn (M : AMem) (p : Option Addr) (M' : AMem) (p' : Option Addr) : Prop where
  same : Same M M' (blk p)
  new : ∀ b ∈ blk p', b ∈ blk p ∨ M.length ≤ b

theorem Grn.refl (M : AMem) (p : Option Addr) : Grn M p M p := ⟨.refl _ _, fun b h => .inl h⟩

theorem Grn.trans {M M1 M2 : AMem} {p p1 p2 : Option Addr} (h : Grn M p M1 p1) (k : Grn M1 p1 M2 p2) : Grn M p M2 p2 :=
  ⟨(h.same.trans k.same).mono' fun b hb hlt => by
    rcases List.mem_append.1 hb with hb | hb
    · exact hb
    · exact (h.new b hb).resolve_right (by omega),
  fun b hb => by
    rcases k.new b hb with hb | hb
    · exact h.new b hb
    · exact .inr (Nat.le_trans h.same.le hb)⟩

theorem Grn.not {M M' : AMem} {p p' : Option Addr} (h : Grn M p M' p') {b : Nat} (hb : b < M.length) (hn : b ∉ blk p) : b ∉ blk p' := fun hm => by
  rcases h.new b hm with h1 | h1
  · exact hn h1
  · omega

theorem Grn.pre {M0 M M' : AMem} {p p' : Option Addr} (h : Grn M p M' p') (k : Same M0 M []) : Grn M0 p M' p' :=
  ⟨(k.trans h.same).mono (by simp), fun b hb => by
    rcases h.new b hb with h1 | h1
    · exact .inl h1
    · exact .inr (Nat.le_trans k.le h1)⟩

theorem grn_row {M : AMem} {esz bytes n c m : Nat} {p : Option Addr} {cs new : List Value} {v : Nat} (h : Slc M esz p n c cs) (hnew : new.length = m * esz) (hm : m ≠ 0)
    (hb : n + m ≤ (281474976710656 / (bytes + 1) - 1024) / 2) :
    ∃ M', (∀ K, appendK esz bytes p n c m new (M ++ [AObj.cells new ⟨false, v⟩]) K = K (some ⟨M.length + 1, 0, none⟩) (n + m) esz M') ∧
      Slc M' esz (some ⟨M.length + 1, 0, none⟩) (n + m) esz (cs ++ new) ∧ Grn M p M' (some ⟨M.length + 1, 0, none⟩) := by
  obtain ⟨M', h1, h2, h3, h4⟩ := append_row (bytes := bytes) (v := v) h hnew hm hb
  exact ⟨M', h1, h2, h3, fun b hb => .inr (by simp at hb; omega)⟩

theorem grn_own {M : AMem} {esz bytes n c m : Nat} {p : Option Addr} {cs new : List Value} (h : Slc M esz p n c cs) (hnew : new.length = m * esz) (hm : m ≠ 0)
    (hb : n + m ≤ (281474976710656 / (bytes + 1) - 1024) / 2) :
    ∃ M', (∀ K, appendK esz bytes p n c m new M K = K (some ⟨M.length, 0, none⟩) (n + m) esz M') ∧
      Slc M' esz (some ⟨M.length, 0, none⟩) (n + m) esz (cs ++ new) ∧ Grn M p M' (some ⟨M.length, 0, none⟩) := by
  obtain ⟨M', h1, h2, h3, h4⟩ := append_own (bytes := bytes) h hnew hm hb
  exact ⟨M', h1, h2, h3, fun b hb => .inr (by simp at hb; omega)⟩

/-- What lies at a place of a row of equal parts. -/
theorem flat_get {α : Type} {k : Nat} {enc : α → List Value} (hk : ∀ x, (enc x).length = k) : ∀ (l : List α) (i j : Nat) (x : α), l[i]? = some x → j < k → (l.flatMap enc)[i * k + j]? = (enc x)[j]?
  | [], i, j, x, h, _ => by simp at h
  | y :: l, i, j, x, h, hj => by
    rw [List.flatMap_cons]
    cases i with
    | zero =>
      simp at h; subst h
      rw [List.getElem?_append_left (by rw [hk]; omega)]; simp
    | succ i =>
      rw [List.getElem?_append_right (by rw [hk, Nat.succ_mul]; omega), hk, show (i + 1) * k + j - k = i * k + j by rw [Nat.succ_mul]; omega]
      exact flat_get hk l i j x (by simpa using h) hj

theorem flatMap_length {α : Type} {k : Nat} {enc : α → List Value} (hk : ∀ x, (enc x).length = k) (l : List α) : (l.flatMap enc).length = l.length * k := by
  induction l with
  | nil => simp
  | cons x l ih => rw [List.flatMap_cons, List.length_append, ih, hk, List.length_cons, Nat.succ_mul, Nat.add_comm]

end Go.Ax

/- Numbers of a kind. -/
set_option linter.unusedVariables false
namespace Go.Ax
open Go

theorem wrapu64 (n : Int) : IntKind.wrap .u64 n = n % 18446744073709551616 := by simp [IntKind.wrap, IntKind.bits, IntKind.signed]
theorem wu64 {n : Int} (h : 0 ≤ n ∧ n < 18446744073709551616) : IntKind.wrap .u64 n = n := by rw [wrapu64]; omega
theorem ofN (n : Nat) : Int.ofNat n = (n : Int) := rfl

theorem ver_same {M M' : AMem} {S : List Nat} (h : Same M M' S) {b : Nat} (hb : b < M.length) (hn : b ∉ S) : AMem.ver M b = AMem.ver M' b := by
  unfold AMem.ver; rw [h.get b hb hn]

/-- Numbers that are read through a slice. -/
def RdI (M : AMem) (k : IntKind) (p : Option Addr) (n : Nat) (l : List Int) : Prop := l.length = n ∧ (0 < n → ∃ a, p = some ⟨a, 0, none⟩ ∧ Rd M a (ints k l))

theorem RdI.of_slc {M : AMem} {k : IntKind} {p : Option Addr} {n c : Nat} {l : List Int} (h : Slc M 1 p n c (ints k l)) : RdI M k p n l :=
  ⟨by simpa using h.len, fun hn => let ⟨a, e, hc⟩ := h.pos hn; ⟨a, e, hc.rd⟩⟩

theorem RdI.same {M M' : AMem} {S : List Nat} {k : IntKind} {p : Option Addr} {n : Nat} {l : List Int} (h : RdI M k p n l) (hs : Same M M' S) (hb : ∀ x ∈ blk p, x ∉ S) : RdI M' k p n l :=
  ⟨h.1, fun hn => let ⟨a, e, hc⟩ := h.2 hn; ⟨a, e, hc.same hs (hb a (by rw [e]; simp))⟩⟩

theorem ints_nat {k : IntKind} {l : List Int} {i : Nat} (h : i < l.length) : (ints k l)[i]? = some (.int k (l.getD i 0)) := by
  rw [ints_get, List.getElem?_eq_getElem h, List.getD_eq_getElem?_getD, List.getElem?_eq_getElem h]
  rfl

/-! ### what is handed in, as lists -/

theorem holdsL_cons {A : AMem} {t : Ty} {ts : List Ty} {vs : List Value} (h : HoldsL A (t :: ts) vs) : ∃ v r, vs = v :: r ∧ Holds A t v ∧ HoldsL A ts r := by simpa only [HoldsL] using h

/-- Parts of a row, each of which stands for something: a list. -/
theorem parts_list {T : Type} (enc : T → List Value) (ok : T → Prop) {k : Nat} (hk : 0 < k) : ∀ (n : Nat) (cs : List Value), cs.length = n * k → (∀ i, i < n → ∃ x, ok x ∧ (cs.drop (i * k)).take k = enc x) →
    ∃ l : List T, l.length = n ∧ cs = l.flatMap enc ∧ ∀ x ∈ l, ok x
  | 0, cs, hl, _ => ⟨[], rfl, by simpa using hl, by simp⟩
  | n + 1, cs, hl, h => by
    obtain ⟨x, hx, e⟩ := h 0 (by omega)
    rw [Nat.zero_mul, List.drop_zero] at e
    obtain ⟨l, h1, h2, h3⟩ := parts_list enc ok hk n (cs.drop k) (by rw [List.length_drop, hl, Nat.succ_mul]; omega) fun i hi => by
      obtain ⟨y, hy, e⟩ := h (i + 1) (by omega)
      refine ⟨y, hy, ?_⟩
      rw [List.drop_drop, ← e, Nat.succ_mul, Nat.add_comm]
    refine ⟨x :: l, by simp [h1], ?_, fun y hy => ?_⟩
    · rw [List.flatMap_cons, ← h2, ← e, List.take_append_drop]
    · rcases List.mem_cons.1 hy with rfl | hy
      · exact hx
      · exact h3 y hy

/-- A row that is read: of each element a group of cells. -/
def RdL {T : Type} (M : AMem) (enc : T → List Value) (p : Option Addr) (n : Nat) (l : List T) : Prop := l.length = n ∧ (0 < n → ∃ a, p = some ⟨a, 0, none⟩ ∧ Rd M a (l.flatMap enc))

theorem RdL.same {T : Type} {M M' : AMem} {enc : T → List Value} {S : List Nat} {p : Option Addr} {n : Nat} {l : List T} (h : RdL M enc p n l) (hs : Same M M' S) (hb : ∀ x ∈ blk p, x ∉ S) : RdL M' enc p n l :=
  ⟨h.1, fun hn => let ⟨a, e, hc⟩ := h.2 hn; ⟨a, e, hc.same hs (hb a (by rw [e]; simp))⟩⟩

theorem RdL.lt {T : Type} {M : AMem} {enc : T → List Value} {p : Option Addr} {n : Nat} {l : List T} (h : RdL M enc p n l) (hn : 0 < n) : ∀ b ∈ blk p, b < M.length := by
  obtain ⟨a, rfl, hc⟩ := h.2 hn
  intro b hb; simp at hb; subst hb; exact hc.lt

/-- An argument that is a slice, as a list. -/
theorem holds_listZ {T : Type} {A : AMem} {e : List Ty} {v : Value} (enc : T → List Value) (ok : T → Prop) (he : 0 < e.length) (h : Holds A (.slice e) v) (hd : ∀ cs, HoldsL A e cs → ∃ x, ok x ∧ cs = enc x) :
    ∃ p l, v = .slice p l.length 0 ∧ RdL A enc p l.length l ∧ (∀ x ∈ l, ok x) ∧ l.length ≤ reachBytes := by
  simp only [Holds] at h
  obtain ⟨p, n, rfl, hm, hn⟩ := h
  by_cases h0 : n = 0
  · subst h0
    exact ⟨p, [], rfl, ⟨rfl, fun h => by simp at h⟩, by simp, Nat.zero_le _⟩
  · obtain ⟨a, cs, rfl, h1, h2, h3⟩ := hn (by omega)
    obtain ⟨l, k1, k2, k3⟩ := parts_list enc ok he n cs h2 fun i hi => hd _ (h3 i hi)
    subst k1
    exact ⟨_, l, rfl, ⟨rfl, fun _ => ⟨a, rfl, by rw [← k2]; exact h1⟩⟩, k3, hm⟩

theorem holds_list {T : Type} {A : AMem} {e : List Ty} {v : Value} (enc : T → List Value) (ok : T → Prop) (he : 0 < e.length) (h : Holds A (.slice e) v) (hd : ∀ cs, HoldsL A e cs → ∃ x, ok x ∧ cs = enc x) :
    ∃ p l, v = .slice p l.length 0 ∧ RdL A enc p l.length l ∧ (∀ x ∈ l, ok x) ∧ l.length ≤ maxLen := by
  obtain ⟨p, l, h1, h2, h3, h4⟩ := holds_listZ enc ok he h hd
  exact ⟨p, l, h1, h2, h3, by unfold maxLen; unfold reachBytes at h4; omega⟩

theorem flatMap_ints (k : IntKind) : ∀ l : List Int, l.flatMap (fun x => [Value.int k x]) = ints k l
  | [] => rfl
  | x :: l => by rw [List.flatMap_cons, flatMap_ints k l]; rfl

theorem RdL.rdI {M : AMem} {k : IntKind} {p : Option Addr} {n : Nat} {l : List Int} (h : RdL M (fun x => [.int k x]) p n l) : RdI M k p n l := by
  refine ⟨h.1, fun hn => ?_⟩
  obtain ⟨a, e, hc⟩ := h.2 hn
  exact ⟨a, e, by rwa [flatMap_ints] at hc⟩

end Go.Ax

/- Rows of equal parts: reads and writes of one part. -/
set_option linter.unusedVariables false
set_option linter.unusedSimpArgs false
namespace Go.Ax
open Go

theorem wrL_mid : ∀ (cs zs pre post : List Value), cs.length = zs.length → wrL (pre ++ zs ++ post) pre.length cs = pre ++ cs ++ post
  | [], [], pre, post, _ => by simp [wrL]
  | [], _ :: _, _, _, h => by simp at h
  | _ :: _, [], _, _, h => by simp at h
  | v :: cs, z :: zs, pre, post, h => by
    have := wrL_mid cs zs (pre ++ [v]) post (by simpa using h)
    simp only [List.length_append, List.length_singleton] at this
    simp only [wrL]
    rw [show (pre ++ z :: zs ++ post).set pre.length v = (pre ++ [v]) ++ zs ++ post by simp, this]
    simp

theorem flat_parts {T : Type} (enc : T → List Value) {l : List T} {k : Nat} {x : T} (h : l[k]? = some x) : l.flatMap enc = (l.take k).flatMap enc ++ enc x ++ (l.drop (k + 1)).flatMap enc := by
  have hk := (List.getElem?_eq_some_iff.1 h).1
  have hx := (List.getElem?_eq_some_iff.1 h).2
  conv => lhs; rw [← List.take_append_drop k l, List.drop_eq_getElem_cons hk, hx]
  rw [List.flatMap_append, List.flatMap_cons, List.append_assoc]

theorem flat_set_parts {T : Type} (enc : T → List Value) {l : List T} {k : Nat} (y : T) (h : k < l.length) : (l.set k y).flatMap enc = (l.take k).flatMap enc ++ enc y ++ (l.drop (k + 1)).flatMap enc := by
  have : (l.set k y)[k]? = some y := by rw [List.getElem?_set_self h]
  rw [flat_parts enc this, List.take_set_of_le (Nat.le_refl k), List.drop_set_of_lt (by omega)]

/-- A part that is written. -/
theorem part_wr {T : Type} {n : Nat} {enc : T → List Value} (hn : ∀ x, (enc x).length = n) {M : AMem} {a : Nat} {l : List T} (h : Cells M a (l.flatMap enc)) {k : Nat} (hk : k < l.length) (y : T) :
    ∃ M', AMem.wr M a (k * n) (enc y) = some M' ∧ Cells M' a ((l.set k y).flatMap enc) ∧ Same M M' [a] ∧ M'.length = M.length := by
  obtain ⟨x, hx⟩ : ∃ x, l[k]? = some x := ⟨_, List.getElem?_eq_getElem hk⟩
  have e := flat_parts enc hx
  have ht : ((l.take k).flatMap enc).length = k * n := by rw [flatMap_length hn]; simp [Nat.min_eq_left (Nat.le_of_lt hk)]
  have hlen : (l.flatMap enc).length = l.length * n := flatMap_length hn l
  have hle : k * n + (enc y).length ≤ (l.flatMap enc).length := by
    rw [hlen, hn, ← Nat.succ_mul]; exact Nat.mul_le_mul_right n hk
  obtain ⟨M', w1, w2, w3, w4⟩ := h.wr (o := k * n) (vs := enc y) hle
  refine ⟨M', w1, ?_, w3, w4⟩
  rw [flat_set_parts enc y hk]
  rw [e, ← ht, wrL_mid (enc y) (enc x) _ _ (by rw [hn, hn])] at w2
  exact w2

/-- One cell of a part that is written. -/
theorem cell_wr {T : Type} {n : Nat} {enc : T → List Value} (hn : ∀ x, (enc x).length = n) {M : AMem} {a : Nat} {l : List T} (h : Cells M a (l.flatMap enc)) {k : Nat} {x y : T} (hx : l[k]? = some x) {j : Nat} (hj : j < n) {v : Value} (hy : enc y = (enc x).set j v) :
    ∃ M', AMem.wr M a (k * n + j) [v] = some M' ∧ Cells M' a ((l.set k y).flatMap enc) ∧ Same M M' [a] ∧ M'.length = M.length := by
  have hk := (List.getElem?_eq_some_iff.1 hx).1
  have e := flat_parts enc hx
  have ht : ((l.take k).flatMap enc).length = k * n := by rw [flatMap_length hn]; simp [Nat.min_eq_left (Nat.le_of_lt hk)]
  have hlen : (l.flatMap enc).length = l.length * n := flatMap_length hn l
  have hle : k * n + j + [v].length ≤ (l.flatMap enc).length := by
    rw [hlen]
    have := Nat.mul_le_mul_right n (show k + 1 ≤ l.length from hk)
    rw [Nat.succ_mul] at this
    simp only [List.length_singleton]; omega
  obtain ⟨M', w1, w2, w3, w4⟩ := h.wr (o := k * n + j) (vs := [v]) hle
  refine ⟨M', w1, ?_, w3, w4⟩
  rw [flat_set_parts enc y hk, hy]
  rw [e, ← ht] at w2
  have : wrL ((l.take k).flatMap enc ++ enc x ++ (l.drop (k + 1)).flatMap enc) (((l.take k).flatMap enc).length + j) [v] = (l.take k).flatMap enc ++ (enc x).set j v ++ (l.drop (k + 1)).flatMap enc := by
    simp only [wrL]
    rw [List.append_assoc, List.set_append_right _ _ (by omega), Nat.add_sub_cancel_left, List.set_append_left _ _ (by rw [hn]; exact hj), List.append_assoc]
  rw [this] at w2
  exact w2

theorem replicate_flat {T : Type} (enc : T → List Value) (x : T) (n : Nat) : (List.replicate n (enc x)).flatten = (List.replicate n x).flatMap enc := by
  rw [List.flatMap_def, List.map_replicate]

end Go.Ax

/- Steps that are taken at the head of a term: what comes behind is not looked at. -/
set_option linter.unusedVariables false
namespace Go.Ax
open Go

theorem bX {α β : Type} {x : Option α} {r : α} (h : x = some r) (f : α → Option β) : Option.bind x f = f r := by rw [h]; rfl
theorem bLI {β : Type} {M : AMem} {b o : Nat} {k : IntKind} {v : Int} (h : AMem.ld M b o = some (.int k v)) (f : Int → Option β) : Option.bind (intOf? k (AMem.ld M b o)) f = f v := by rw [h, intOf_int]; rfl
theorem bLS {β : Type} {M : AMem} {b o : Nat} {p : Option Addr} {n c : Nat} (h : AMem.ld M b o = some (.slice p n c)) (f : Option Addr × Nat × Nat → Option β) : Option.bind (sliceOf? (AMem.ld M b o)) f = f (p, n, c) := by rw [h, sliceOf_slice]; rfl
theorem bLB {β : Type} {M : AMem} {b o : Nat} {v : Bool} (h : AMem.ld M b o = some (.bool v)) (f : Bool → Option β) : Option.bind (boolOf? (AMem.ld M b o)) f = f v := by rw [h, boolOf_bool]; rfl
theorem bLP {β : Type} {M : AMem} {b o : Nat} {v : Option Addr} (h : AMem.ld M b o = some (.pointer v)) (f : Option Addr → Option β) : Option.bind (ptrOf? (AMem.ld M b o)) f = f v := by rw [h, ptrOf_ptr]; rfl
theorem bI {β : Type} (k : IntKind) (v : Int) (f : Int → Option β) : Option.bind (intOf? k (some (.int k v))) f = f v := by rw [intOf_int]; rfl
theorem bS {β : Type} (p : Option Addr) (n c : Nat) (f : Option Addr × Nat × Nat → Option β) : Option.bind (sliceOf? (some (.slice p n c))) f = f (p, n, c) := by rw [sliceOf_slice]; rfl
theorem bB {β : Type} (v : Bool) (f : Bool → Option β) : Option.bind (boolOf? (some (.bool v))) f = f v := by rw [boolOf_bool]; rfl
theorem bP {β : Type} (v : Option Addr) (f : Option Addr → Option β) : Option.bind (ptrOf? (some (.pointer v))) f = f v := by rw [ptrOf_ptr]; rfl
theorem bA3 {β : Type} (a b c : Value) (f : List Value → Option β) : Option.bind (aggOf? 3 (.agg #[a, b, c])) f = f [a, b, c] := rfl
theorem bA4 {β : Type} (a b c d : Value) (f : List Value → Option β) : Option.bind (aggOf? 4 (.agg #[a, b, c, d])) f = f [a, b, c, d] := rfl
theorem bT2 {β : Type} (a b : Value) (f : List Value → Option β) : Option.bind (tupOf? 2 (.tuple #[a, b])) f = f [a, b] := rfl
theorem bG0 {β : Type} (a : Value) (l : List Value) (f : Value → Option β) : Option.bind ((a :: l)[0]?) f = f a := rfl
theorem bG1 {β : Type} (a b : Value) (l : List Value) (f : Value → Option β) : Option.bind ((a :: b :: l)[1]?) f = f b := rfl
theorem bI0 {β : Type} (k : IntKind) (a : Int) (l : List Value) (f : Int → Option β) : Option.bind (intOf? k ((.int k a :: l)[0]?)) f = f a := bI k a f
theorem bI1 {β : Type} (k : IntKind) (x : Value) (a : Int) (l : List Value) (f : Int → Option β) : Option.bind (intOf? k ((x :: .int k a :: l)[1]?)) f = f a := bI k a f
theorem bI2 {β : Type} (k : IntKind) (x y : Value) (a : Int) (l : List Value) (f : Int → Option β) : Option.bind (intOf? k ((x :: y :: .int k a :: l)[2]?)) f = f a := bI k a f
theorem bI3 {β : Type} (k : IntKind) (x y z : Value) (a : Int) (l : List Value) (f : Int → Option β) : Option.bind (intOf? k ((x :: y :: z :: .int k a :: l)[3]?)) f = f a := bI k a f
theorem bS2 {β : Type} (x y : Value) (p : Option Addr) (n c : Nat) (l : List Value) (f : Option Addr × Nat × Nat → Option β) : Option.bind (sliceOf? ((x :: y :: .slice p n c :: l)[2]?)) f = f (p, n, c) := bS p n c f
theorem bS0 {β : Type} (p : Option Addr) (n c : Nat) (l : List Value) (f : Option Addr × Nat × Nat → Option β) : Option.bind (sliceOf? ((.slice p n c :: l)[0]?)) f = f (p, n, c) := bS p n c f
theorem ifT {α : Type} (a b : α) : (if true = true then a else b) = a := rfl
theorem ifF {α : Type} (a b : α) : (if false = true then a else b) = b := rfl
theorem ifNT {α : Type} (a b : α) : (if (!true) = true then a else b) = b := rfl
theorem ifNF {α : Type} (a b : α) : (if (!false) = true then a else b) = a := rfl
theorem ifD {α : Type} {p : Prop} [Decidable p] (h : p) (a b : α) : (if decide p = true then a else b) = a := by rw [decide_eq_true h]; rfl
theorem ifDn {α : Type} {p : Prop} [Decidable p] (h : ¬ p) (a b : α) : (if decide p = true then a else b) = b := by rw [decide_eq_false h]; rfl

end Go.Ax

/- Square roots: plain laws. -/
set_option linter.unusedVariables false
set_option linter.unusedSimpArgs false
namespace Go.Ax
open Go

def IsRoot (n r : Nat) : Prop := r * r ≤ n ∧ n < (r + 1) * (r + 1)

theorem sq_mono {a b : Nat} (h : a ≤ b) : a * a ≤ b * b := Nat.mul_le_mul h h

theorem IsRoot.uniq {n r s : Nat} (h : IsRoot n r) (k : IsRoot n s) : r = s := by
  rcases Nat.lt_trichotomy r s with e | e | e
  · have := sq_mono (show r + 1 ≤ s by omega)
    have := h.2; have := k.1; omega
  · exact e
  · have := sq_mono (show s + 1 ≤ r by omega)
    have := k.2; have := h.1; omega

theorem IsRoot.le {n r m : Nat} (h : IsRoot n r) (hm : n ≤ m * m) : r ≤ m := by
  refine Nat.le_of_not_lt fun hlt => ?_
  have h1 := sq_mono (show m + 1 ≤ r by omega)
  have e : (m + 1) * (m + 1) = m * m + m + m + 1 := by rw [Nat.add_mul, Nat.mul_add]; omega
  have h2 := h.1; omega

theorem root_ex : ∀ n, ∃ s, IsRoot n s
  | 0 => ⟨0, by simp [IsRoot]⟩
  | n + 1 => by
    obtain ⟨s, h1, h2⟩ := root_ex n
    by_cases h : (s + 1) * (s + 1) ≤ n + 1
    · refine ⟨s + 1, h, ?_⟩
      have e : (s + 1 + 1) * (s + 1 + 1) = (s + 1) * (s + 1) + (s + 1) + (s + 1) + 1 := by rw [Nat.add_mul (s + 1), Nat.mul_add (s + 1)]; omega
      omega
    · exact ⟨s, by omega, by omega⟩

/-- A step of the way down stays above the root. -/
theorem newton_ge {n r s : Nat} (hs : s * s ≤ n) (hr : 0 < r) : s ≤ (r + n / r) / 2 := by
  have : 2 * s ≤ r + n / r := by
    by_cases h : 2 * s ≤ r
    · exact Nat.le_trans h (Nat.le_add_right _ _)
    · have hk : 2 * s - r ≤ n / r := by
        rw [Nat.le_div_iff_mul_le hr]
        refine Nat.le_trans ?_ hs
        have e : ((2 * s - r : Nat) : Int) = 2 * (s : Int) - (r : Int) := by omega
        have hi : (((2 * s - r : Nat) : Int) * (r : Int)) ≤ (s : Int) * (s : Int) := by
          rw [e]
          have h0 : 0 ≤ ((s : Int) - r) * ((s : Int) - r) := by
            rcases Int.le_total 0 ((s : Int) - r) with h | h
            · exact Int.mul_nonneg h h
            · exact Int.mul_nonneg_of_nonpos_of_nonpos h h
          have e2 : ((s : Int) - r) * ((s : Int) - r) = (s : Int) * s - (2 * (s : Int) - r) * r := by
            rw [Int.sub_mul, Int.mul_sub, Int.mul_sub, Int.sub_mul, Int.mul_assoc, Int.mul_comm (r : Int) (s : Int)]; omega
          omega
        have := hi
        exact_mod_cast this
      generalize n / r = z at hk ⊢
      omega
  generalize n / r = z at this ⊢
  omega

theorem newton_end {n r s : Nat} (hs : IsRoot n s) (hr : 0 < r) (h : s ≤ r) (hn : r ≤ (r + n / r) / 2) : r = s := by
  have h1 : r ≤ n / r := by omega
  have h2 : r * r ≤ n := (Nat.le_div_iff_mul_le hr).1 h1
  refine Nat.le_antisymm (Nat.le_of_not_lt fun hlt => ?_) h
  have := sq_mono (show s + 1 ≤ r by omega)
  have := hs.2; omega

/-- Bit by bit. -/
def rt (n : Nat) : Nat → Nat → Nat
  | 0, r => r
  | i + 1, r => if (r + 2 ^ i) * (r + 2 ^ i) ≤ n then rt n i (r + 2 ^ i) else rt n i r

theorem rt_root {n : Nat} : ∀ (i r : Nat), r * r ≤ n → n < (r + 2 ^ i) * (r + 2 ^ i) → IsRoot n (rt n i r)
  | 0, r, h1, h2 => ⟨h1, by simpa [rt] using h2⟩
  | i + 1, r, h1, h2 => by
    have e : r + 2 ^ (i + 1) = r + 2 ^ i + 2 ^ i := by rw [Nat.pow_succ]; omega
    rw [e] at h2
    simp only [rt]
    split
    · rename_i h; exact rt_root i _ h h2
    · rename_i h; exact rt_root i _ h1 (by omega)

end Go.Ax
