/- What is dead stays dead; what has been written is marked so. -/
import Derived.Test.YtjmeilpffmhojaaAxDep
set_option linter.unusedVariables false
set_option linter.unusedSimpArgs false
namespace Go.Ax
open Go

/-- How a block may turn. -/
def OG (x y : Option AObj) : Prop := (x = some .dead → y = some .dead) ∧
  ∀ cs m, x = some (.cells cs m) → y = some .dead ∨ ∃ cs' m', y = some (.cells cs' m') ∧ m.ver ≤ m'.ver ∧ (m'.ver = m.ver → cs' = cs)

theorem OG.refl (x : Option AObj) : OG x x := ⟨id, fun cs m h => .inr ⟨cs, m, h, Nat.le_refl _, fun _ => rfl⟩⟩

theorem OG.none (y : Option AObj) : OG Option.none y := ⟨fun e => (by cases e), fun cs m e => (by cases e)⟩

theorem OG.trans {x y z : Option AObj} (h : OG x y) (k : OG y z) : OG x z := ⟨fun e => k.1 (h.1 e), fun cs m e => by
  rcases h.2 cs m e with h1 | ⟨cs', m', h1, h2, h3⟩
  · exact .inl (k.1 h1)
  · rcases k.2 cs' m' h1 with k1 | ⟨cs'', m'', k1, k2, k3⟩
    · exact .inl k1
    · exact .inr ⟨cs'', m'', k1, Nat.le_trans h2 k2, fun e => by
        have e1 : m''.ver = m'.ver := by omega
        rw [k3 e1, h3 (by omega)]⟩⟩

def Grow (A A' : AMem) : Prop := ∀ a : Nat, OG A[a]? A'[a]?

theorem Grow.refl (A : AMem) : Grow A A := fun a => .refl _
theorem Grow.trans {A A' A'' : AMem} (h : Grow A A') (k : Grow A' A'') : Grow A A'' := fun a => (h a).trans (k a)

theorem Grow.app (A : AMem) (l : AMem) : Grow A (A ++ l) := fun a => by
  by_cases h : a < A.length
  · rw [List.getElem?_append_left h]; exact .refl _
  · rw [List.getElem?_eq_none (Nat.le_of_not_lt h)]; exact .none _

theorem Grow.set (A : AMem) (n : Nat) (x : AObj) (h : OG A[n]? (some x)) : Grow A (A.set n x) := fun a => by
  rw [List.getElem?_set]
  split
  · rename_i e; subst e
    split
    · exact h
    · rename_i hn; rw [List.getElem?_eq_none (Nat.le_of_not_lt hn)]; exact .refl _
  · exact .refl _

theorem Grow.dead (A : AMem) (n : Nat) : Grow A (A.set n .dead) := .set A n _ ⟨fun _ => rfl, fun _ _ _ => .inl rfl⟩

theorem Grow.wr {A A' : AMem} {b o : Nat} {vs : List Value} (h : A.wr b o vs = some A') : Grow A A' := by
  unfold AMem.wr at h
  split at h
  · rename_i cs m hA
    split at h
    · cases h
      refine .set A b _ ⟨fun e => (by rw [hA] at e; cases e), fun cs0 m0 e => ?_⟩
      rw [hA] at e; cases e
      exact .inr ⟨_, _, rfl, Nat.le_succ _, fun e => absurd e (by simp)⟩
    · cases h
  · cases h

structure GrowRec (rec : Rec) : Prop where
  call : ∀ f args A r, rec.call f args A = some r → Grow A r.2
  round : ∀ l args A r, rec.round l args A = some r → Grow A r.2
  loop : ∀ b K t A r, rec.loop b K t A = some r → ∃ e t' A', K e t' A' = some r ∧ Grow A A'

section
variable {rec : Rec}

theorem newK_na (op : AOp) (t : List Value) : ∃ o : Option ((Nat → Value) × AObj), ∀ K, newK op t K = o.bind fun p => K p.1 p.2 := by
  cases op with
  | buildSlice esz len zero parts =>
    exact ⟨(fillL zero (parts.map fun p => (p.1, p.2.1, ev t p.2.2))).map fun cs => (fun a => .slice (some ⟨a, 0, none⟩) len esz, .cells cs ⟨false, 0⟩), fun K => by
      simp only [newK]; cases fillL zero _ <;> rfl⟩
  | alloc zero => exact ⟨some (fun a => .pointer (some ⟨a, 0, none⟩), .cells zero ⟨false, 0⟩), fun K => rfl⟩
  | box x =>
    by_cases h : (cellsL (ev t x)).all leafV = true
    · exact ⟨some (fun a => .pointer (some ⟨a, 0, none⟩), .cells (cellsL (ev t x)) ⟨false, 0⟩), fun K => by simp only [newK]; rw [if_pos h]; rfl⟩
    · exact ⟨none, fun K => by simp only [newK]; rw [if_neg h]; rfl⟩
  | makeSlice esz bytes zero l c =>
    simp only [newK]
    cases ev t l with
    | int k n =>
      cases ev t c with
      | int k' m =>
        by_cases h : 0 ≤ n ∧ n ≤ m ∧ m ≤ 140737488355328 ∧ m * bytes ≤ 140737488355328
        · exact ⟨some (fun a => .slice (some ⟨a, 0, none⟩) n.toNat esz, .cells (replL n.toNat zero) ⟨false, 0⟩), fun K => by simp only []; rw [if_pos h]; rfl⟩
        · exact ⟨none, fun K => by simp only []; rw [if_neg h]; rfl⟩
      | _ => exact ⟨none, fun K => rfl⟩
    | _ => exact ⟨none, fun K => rfl⟩
  | _ => exact ⟨none, fun K => rfl⟩

theorem opV_grow (hg : GrowRec rec) {op : AOp} {t : List Value} {M : AMem} {r : Value × AMem} (h : opV rec op t M = some r) : Grow M r.2 := by
  by_cases hp : kindOf op = .pure
  · rw [opV_pure rec op t M M hp] at h
    obtain ⟨p, _, h2⟩ := Option.map_eq_some_iff.1 h
    subst h2; exact .refl _
  · unfold opV at h
    have newc : ∀ (o : Option ((Nat → Value) × AObj)), (o.bind fun p => some (p.1 M.length, M ++ [p.2])) = some r → Grow M r.2 := fun o ho => by
      obtain ⟨p, _, h2⟩ := Option.bind_eq_some_iff.1 ho
      cases h2; exact .app _ _
    cases op <;> try (exact absurd rfl hp; done)
    case load agg lfs a =>
      have := opV_load rec agg lfs a t M M (fun _ _ _ => rfl)
      unfold opV at this
      rw [this] at h
      obtain ⟨p, _, h2⟩ := Option.map_eq_some_iff.1 h
      subst h2; exact .refl _
    case buildSlice e n z ps =>
      obtain ⟨o, ho⟩ := newK_na (.buildSlice e n z ps) t
      simp only [opK, ho] at h; exact newc o h
    case alloc z =>
      obtain ⟨o, ho⟩ := newK_na (.alloc z) t
      simp only [opK, ho] at h; exact newc o h
    case box x =>
      obtain ⟨o, ho⟩ := newK_na (.box x) t
      simp only [opK, ho] at h; exact newc o h
    case makeSlice e b z l c =>
      obtain ⟨o, ho⟩ := newK_na (.makeSlice e b z l c) t
      simp only [opK, ho] at h; exact newc o h
    case store n a x =>
      simp only [opK] at h
      split at h
      · split at h
        · obtain ⟨M2, h1, h2⟩ := Option.bind_eq_some_iff.1 h
          cases h2; exact .wr h1
        · cases h
      · cases h
    case append e b s x =>
      simp only [opK] at h
      split at h
      · obtain ⟨m, h1, h2⟩ := Option.bind_eq_some_iff.1 h
        obtain ⟨new, h3, h4⟩ := Option.bind_eq_some_iff.1 h2
        unfold appendK at h4
        split at h4
        · cases h4; exact .refl _
        · split at h4
          · split at h4
            · split at h4
              · cases h4; exact .app _ _
              · cases h4
            · split at h4
              · split at h4
                · cases h4; exact .app _ _
                · cases h4
              · split at h4
                · split at h4
                  · cases h4; exact (Grow.dead _ _).trans (.app _ _)
                  · cases h4
                · cases h4
          · cases h4
      · cases h
    case copy e d s =>
      simp only [opK] at h
      split at h
      · obtain ⟨m, h1, h2⟩ := Option.bind_eq_some_iff.1 h
        obtain ⟨new, h3, h4⟩ := Option.bind_eq_some_iff.1 h2
        unfold copyK at h4
        split at h4
        · cases h4; exact .refl _
        · split at h4
          · obtain ⟨M2, h5, h6⟩ := Option.bind_eq_some_iff.1 h4
            cases h6; exact .wr h5
          · cases h4
      · cases h
    case call flat f args ret single =>
      have hf : flat = false := by cases flat <;> simp_all [kindOf]
      subst hf
      simp only [opK] at h
      split at h
      · split at h
        · simp only [Bool.false_eq_true, if_false] at h
          obtain ⟨q, h1, h2⟩ := Option.bind_eq_some_iff.1 h
          obtain ⟨o, ho⟩ := view_na ret single q.1
          rw [ho] at h2
          obtain ⟨v, _, h3⟩ := Option.bind_eq_some_iff.1 h2
          have := hg.call _ _ _ _ h1
          cases h3; exact this
        · simp only [Bool.false_eq_true, if_false] at h
          obtain ⟨q, h1, h2⟩ := Option.bind_eq_some_iff.1 h
          obtain ⟨o, ho⟩ := view_na ret single q.1
          rw [ho] at h2
          obtain ⟨v, _, h3⟩ := Option.bind_eq_some_iff.1 h2
          have := hg.round _ _ _ _ h1
          cases h3; exact this
        · cases h
      · cases h

/-- An operation's result, its guard asked first: what is put, and the memory. -/
def operR (rec : Rec) (o : AOper) (t : List Value) (M : AMem) : Res :=
  match o.guard with
  | none => opV rec o.op t M
  | some (g, want) => match t.getD g undef with
    | .bool b => if b = want then opV rec o.op t M else some (undef, M)
    | .tuple vs => if vs.toList.isEmpty then some (undef, M) else none
    | _ => none

theorem set_getD {t : List Value} {g : Nat} {v : Value} (h : t.getD g undef = v) (hv : v ≠ undef) : t.set g v = t := by
  by_cases hg : g < t.length
  · have : t[g] = v := by simpa [List.getD, hg] using h
    rw [← this]; exact List.set_getElem_self hg
  · exfalso
    apply hv
    rw [← h]; simp [List.getD, List.getElem?_eq_none (Nat.le_of_not_lt hg)]

theorem operK_na (rec : Rec) (o : AOper) (t : List Value) (M : AMem) (K : List Value → AMem → Res) : operK rec o t M K = (operR rec o t M).bind fun p => K (setT t o.dst p.1) p.2 := by
  obtain ⟨dst, op, guard⟩ := o
  cases guard with
  | none => simp only [operK, setTF_eq]; exact opK_na rec op t M (fun v M => K (setT t dst v) M)
  | some gw =>
    obtain ⟨g, want⟩ := gw
    simp only [operK, operR, setTF_eq, setF_eq]
    cases hb : t.getD g undef with
    | bool b =>
      have hset : t.set g (.bool b) = t := set_getD hb (by simp [undef])
      cases b with
      | true =>
        simp only [if_true, hset]
        cases want with
        | true => simp only [if_true]; exact opK_na rec op t M _
        | false => rfl
      | false =>
        simp only [Bool.false_eq_true, if_false, hset]
        cases want with
        | true => rfl
        | false => simp only [if_true, Bool.false_eq_true, if_false]; exact opK_na rec op t M _
    | tuple vs => simp only []; split <;> rfl
    | _ => rfl

theorem operR_grow (hg : GrowRec rec) {o : AOper} {t : List Value} {M : AMem} {r : Value × AMem} (h : operR rec o t M = some r) : Grow M r.2 := by
  unfold operR at h
  split at h
  · exact opV_grow hg h
  · split at h
    · split at h
      · exact opV_grow hg h
      · cases h; exact .refl _
    · split at h
      · cases h; exact .refl _
      · cases h
    · cases h

theorem operK_grow (hg : GrowRec rec) {o : AOper} {t : List Value} {M : AMem} {K : List Value → AMem → Res} {r : Value × AMem} (h : operK rec o t M K = some r) :
    ∃ t' M', K t' M' = some r ∧ Grow M M' := by
  rw [operK_na] at h
  obtain ⟨p, h1, h2⟩ := Option.bind_eq_some_iff.1 h
  exact ⟨_, _, h2, operR_grow hg h1⟩

theorem opsK_grow (hg : GrowRec rec) : ∀ (l : List AOper) {t : List Value} {M : AMem} {K : List Value → AMem → Res} {r : Value × AMem}, opsK rec l t M K = some r →
    ∃ t' M', K t' M' = some r ∧ Grow M M'
  | [], t, M, K, r, h => ⟨t, M, h, .refl _⟩
  | o :: l, t, M, K, r, h => by
    obtain ⟨t1, M1, h1, g1⟩ := operK_grow hg h
    obtain ⟨t2, M2, h2, g2⟩ := opsK_grow hg l h1
    exact ⟨t2, M2, h2, g1.trans g2⟩

def GrowN (n : Nat) (A A' : AMem) : Prop := ∀ a : Nat, a < n → OG A[a]? A'[a]?

theorem drawK_grow (hg : GrowRec rec) (pairs : List (Nat × Nat)) (base : Nat) : ∀ (l : List (AOper × Option Nat)) (i : Nat) (lds : List (Nat × Nat)) (efs : List (Nat × AMem × AMem)) {t : List Value} {M : AMem}
    {K : List Value → AMem → Res} {r : Value × AMem}, drawK rec pairs base l i lds efs t M K = some r → ∃ t' M', K t' M' = some r ∧ GrowN base M M'
  | [], i, lds, efs, t, M, K, r, h => by
    simp only [drawK] at h
    split at h
    · exact ⟨t, M, h, fun a _ => .refl _⟩
    · cases h
  | (o, none) :: l, i, lds, efs, t, M, K, r, h => by
    simp only [drawK] at h
    obtain ⟨t1, M1, h1, g1⟩ := operK_grow hg h
    obtain ⟨t2, M2, h2, g2⟩ := drawK_grow hg pairs base l _ _ _ h1
    exact ⟨t2, M2, h2, fun a ha => (g1 a).trans (g2 a ha)⟩
  | (o, some j) :: l, i, lds, efs, t, M, K, r, h => by
    simp only [drawK] at h
    unfold fillK at h
    split at h
    · obtain ⟨no, hno⟩ := newK_na o.op t
      simp only [setTF_eq] at h
      rw [hno] at h
      obtain ⟨p, h1, h2⟩ := Option.bind_eq_some_iff.1 h
      obtain ⟨t2, M2, h3, g2⟩ := drawK_grow hg pairs base l _ _ _ h2
      refine ⟨t2, M2, h3, fun a ha => ?_⟩
      have := g2 a ha
      rw [List.getElem?_set, if_neg (by omega)] at this
      exact this
    · cases h

theorem code_grow (hg : GrowRec rec) : ∀ (a : ACode) (K : KT) (t : List Value) (A : AMem) (r : Value × AMem), code rec a K t A = some r → ∃ e t' A', K e t' A' = some r ∧ Grow A A' := by
  intro a
  induction a with
  | skip => intro K t A r h; exact ⟨_, _, _, h, .refl _⟩
  | ops l =>
    intro K t A r h
    obtain ⟨t', M', h1, g⟩ := opsK_grow hg l h
    exact ⟨_, _, _, h1, g⟩
  | draw first nres l chk =>
    intro K t A r h
    obtain ⟨t1, M1, h1, g1⟩ := opsK_grow hg first h
    obtain ⟨t2, M2, h2, g2⟩ := drawK_grow hg chk M1.length l 0 [] [] h1
    refine ⟨_, _, _, h2, g1.trans fun a => ?_⟩
    by_cases ha : a < M1.length
    · have := g2 a ha
      rwa [addRooms_eq, List.getElem?_append_left ha] at this
    · rw [List.getElem?_eq_none (Nat.le_of_not_lt ha)]; exact .none _
  | seq a b iha ihb =>
    intro K t A r h
    obtain ⟨e, t1, A1, h1, g1⟩ := iha _ _ _ _ h
    cases e with
    | normal =>
      obtain ⟨e2, t2, A2, h2, g2⟩ := ihb _ _ _ _ h1
      exact ⟨e2, t2, A2, h2, g1.trans g2⟩
    | exit i => exact ⟨_, _, _, h1, g1⟩
    | ret => exact ⟨_, _, _, h1, g1⟩
  | cond c a b iha ihb =>
    intro K t A r h
    simp only [code] at h
    split at h
    · split at h
      · exact iha _ _ _ _ h
      · exact ihb _ _ _ _ h
    · cases h
  | block id b ih =>
    intro K t A r h
    obtain ⟨e, t1, A1, h1, g1⟩ := ih _ _ _ _ h
    cases e with
    | normal => exact ⟨_, _, _, h1, g1⟩
    | exit i =>
      simp only [blockK] at h1
      split at h1
      · exact ⟨_, _, _, h1, g1⟩
      · exact ⟨_, _, _, h1, g1⟩
    | ret => exact ⟨_, _, _, h1, g1⟩
  | loop b ih => intro K t A r h; exact hg.loop b K t A r h
  | rangeFunc f ps a b _ _ =>
    intro K t A r h
    simp only [code] at h
    split at h
    · split at h
      · obtain ⟨q, h1, h2⟩ := Option.bind_eq_some_iff.1 h
        have g1 := (Grow.app A _).trans (hg.call _ _ _ _ h1)
        split at h2
        · split at h2
          · cases h2
          · split at h2
            · exact ⟨_, _, _, h2, g1.trans (.dead _ _)⟩
            · exact ⟨_, _, _, h2, g1.trans (.dead _ _)⟩
        · cases h2
      · cases h
    · cases h
  | exit id => intro K t A r h; exact ⟨_, _, _, h, .refl _⟩
  | ret => intro K t A r h; exact ⟨_, _, _, h, .refl _⟩
  | clear ts a ih => intro K t A r h; exact ih K (clearT t ts) A r (by simpa only [code, clearF_eq] using h)
  | post a ts ih =>
    intro K t A r h
    obtain ⟨e, t1, A1, h1, g1⟩ := ih _ _ _ _ h
    cases e with
    | normal => exact ⟨.normal, clearT t1 ts, A1, by simpa only [postK, clearF_eq] using h1, g1⟩
    | exit i => exact ⟨_, _, _, h1, g1⟩
    | ret => exact ⟨_, _, _, h1, g1⟩

theorem resK_na (t : List Value) (M : AMem) : ∀ (l : List ARes), Na (resK t M l)
  | [] => ⟨some [], fun K => rfl⟩
  | .tmp i :: l => by
    obtain ⟨o, ho⟩ := resK_na t M l
    exact ⟨o.map fun vs => t.getD i undef :: vs, fun K => by simp only [resK, ho]; cases o <;> rfl⟩
  | .cell agg lfs a :: l => by
    obtain ⟨o, ho⟩ := resK_na t M l
    simp only [resK]
    generalize t.getD a undef = v
    cases v with
    | pointer p =>
      cases p with
      | none => exact ⟨none, fun K => rfl⟩
      | some p =>
        cases agg with
        | true =>
          obtain ⟨o1, h1⟩ := ldLeaves_na (fun j => M.ld p.block (p.off + j)) lfs 0
          exact ⟨o1.bind fun cs => o.map fun vs => .agg cs.toArray :: vs, fun K => by simp only [if_true, h1, ho]; cases o1 <;> cases o <;> rfl⟩
        | false =>
          match lfs with
          | [] => exact ⟨none, fun K => rfl⟩
          | _ :: _ :: _ => exact ⟨none, fun K => rfl⟩
          | [lf] =>
            obtain ⟨o1, h1⟩ := ldLeaf_na lf (M.ld p.block p.off)
            exact ⟨o1.bind fun v => o.map fun vs => v :: vs, fun K => by simp only [Bool.false_eq_true, if_false, h1, ho]; cases o1 <;> cases o <;> rfl⟩
    | _ => exact ⟨none, fun K => rfl⟩

theorem retK_mem {res : List ARes} {e : AExit} {t : List Value} {A : AMem} {r : Value × AMem} (h : retK res e t A = some r) : r.2 = A := by
  obtain ⟨o, ho⟩ := resK_na t A res
  cases e with
  | exit i => cases h
  | _ =>
    simp only [retK, ho] at h
    obtain ⟨vs, _, h2⟩ := Option.bind_eq_some_iff.1 h
    cases h2; rfl

theorem roundK_grow {l : Nat} {e : AExit} {t : List Value} {A : AMem} {r : Value × AMem} (h : roundK l e t A = some r) : Grow A r.2 := by
  unfold roundK at h
  split at h
  · rename_i r1 hr1
    have : ∀ x, Grow A (A.set l (.loop x)) := fun x => .set A l _ ⟨fun e => (by rw [hr1] at e; cases e), fun cs m e => (by rw [hr1] at e; cases e)⟩
    split at h <;> (cases h; exact this _)
  · cases h

theorem grow_run (E : Env) (hx : ∀ g h, E.ext g = some h → ∀ args A r, h args A = some r → Grow A r.2) : ∀ n, GrowRec (run E n)
  | 0 => ⟨fun _ _ _ _ h => (by cases h), fun _ _ _ _ h => (by cases h), fun _ _ _ _ _ h => (by cases h)⟩
  | n + 1 => by
    have ih := grow_run E hx n
    refine ⟨fun f args A r h => ?_, fun l args A r h => ?_, fun b K t A r h => ?_⟩
    · have h' : (match E.ext f with
          | some h => h args A
          | none => match E.fn f with
            | some a => enterF (run E n) a args A
            | none => none) = some r := h
      split at h'
      · rename_i hh he
        exact hx f hh he args A r h'
      · split at h'
        · unfold enterF at h'
          split at h'
          · obtain ⟨e, t', A', h1, g⟩ := code_grow ih _ _ _ _ _ h'
            rw [retK_mem h1]; exact g
          · cases h'
        · cases h'
    · have h' : roundF (run E n) l args A = some r := h
      unfold roundF at h'
      split at h'
      · split at h'
        · obtain ⟨e, t', A', h1, g⟩ := code_grow ih _ _ _ _ _ h'
          cases e with
          | normal =>
            simp only at h1
            split at h1
            · rename_i r1 hr1
              split at h1
              · obtain ⟨e2, t2, A2, h2, g2⟩ := code_grow ih _ _ _ _ _ h1
                refine (g.trans (Grow.set A' l _ ⟨fun e => (by rw [hr1] at e; cases e), fun cs m e => (by rw [hr1] at e; cases e)⟩)).trans (g2.trans (roundK_grow h2))
              · cases h1
            · cases h1
          | exit i => cases h1
          | ret => cases h1
        · cases h'
      · cases h'
    · have h' : code (run E n) b (loopK (run E n) b K) t A = some r := h
      obtain ⟨e, t1, A1, h1, g1⟩ := code_grow ih _ _ _ _ _ h'
      cases e with
      | normal =>
        obtain ⟨e2, t2, A2, h2, g2⟩ := ih.loop _ _ _ _ _ h1
        exact ⟨e2, t2, A2, h2, g1.trans g2⟩
      | exit i => exact ⟨_, _, _, h1, g1⟩
      | ret => exact ⟨_, _, _, h1, g1⟩

end
end Go.Ax
