/- The interpreter without fuel. -/
import Derived.Test.YtjmeilpffmhojaaAxGrow
set_option linter.unusedVariables false
set_option linter.unusedSimpArgs false
namespace Go.Ax
open Go

/-- How code goes on: to one end, whatever comes behind. -/
def NaX (f : KT → Res) : Prop := ∀ K r, f K = some r → ∃ e t' M', K e t' M' = some r ∧ ∀ K', f K' = K' e t' M'

structure NaRec (rec : Rec) : Prop where
  loop : ∀ b t M, NaX fun K => rec.loop b K t M

section
variable {rec : Rec}

theorem operK_nx {o : AOper} {t : List Value} {M : AMem} {K : List Value → AMem → Res} {r : Value × AMem} (h : operK rec o t M K = some r) :
    ∃ t' M', K t' M' = some r ∧ ∀ K', operK rec o t M K' = K' t' M' := by
  rw [operK_na] at h
  obtain ⟨p, h1, h2⟩ := Option.bind_eq_some_iff.1 h
  exact ⟨_, _, h2, fun K' => by rw [operK_na, h1]; rfl⟩

theorem opsK_nx : ∀ (l : List AOper) {t : List Value} {M : AMem} {K : List Value → AMem → Res} {r : Value × AMem}, opsK rec l t M K = some r →
    ∃ t' M', K t' M' = some r ∧ ∀ K', opsK rec l t M K' = K' t' M'
  | [], t, M, K, r, h => ⟨t, M, h, fun K' => rfl⟩
  | o :: l, t, M, K, r, h => by
    obtain ⟨t1, M1, h1, g1⟩ := operK_nx h
    obtain ⟨t2, M2, h2, g2⟩ := opsK_nx l h1
    exact ⟨t2, M2, h2, fun K' => by simp only [opsK, g1, g2]⟩

theorem fillK_nx {o : AOper} {a : Nat} {t : List Value} {M : AMem} {K : List Value → AMem → Res} {r : Value × AMem} (h : fillK o a t M K = some r) :
    ∃ t' M', K t' M' = some r ∧ ∀ K', fillK o a t M K' = K' t' M' := by
  unfold fillK at h
  obtain ⟨no, hno⟩ := newK_na o.op t
  split at h
  · rename_i hg
    simp only [setTF_eq] at h
    rw [hno] at h
    obtain ⟨p, h1, h2⟩ := Option.bind_eq_some_iff.1 h
    exact ⟨_, _, h2, fun K' => by unfold fillK; rw [hg]; simp only [setTF_eq, hno, h1]; rfl⟩
  · cases h

theorem drawK_nx (pairs : List (Nat × Nat)) (base : Nat) : ∀ (l : List (AOper × Option Nat)) (i : Nat) (lds : List (Nat × Nat)) (efs : List (Nat × AMem × AMem)) {t : List Value} {M : AMem}
    {K : List Value → AMem → Res} {r : Value × AMem}, drawK rec pairs base l i lds efs t M K = some r → ∃ t' M', K t' M' = some r ∧ ∀ K', drawK rec pairs base l i lds efs t M K' = K' t' M'
  | [], i, lds, efs, t, M, K, r, h => by
    simp only [drawK] at h
    split at h
    · rename_i hc
      exact ⟨t, M, h, fun K' => by simp only [drawK, hc, if_true]⟩
    · cases h
  | (o, none) :: l, i, lds, efs, t, M, K, r, h => by
    simp only [drawK] at h
    obtain ⟨t1, M1, h1, g1⟩ := operK_nx h
    obtain ⟨t2, M2, h2, g2⟩ := drawK_nx pairs base l _ _ _ h1
    exact ⟨t2, M2, h2, fun K' => by simp only [drawK]; rw [g1]; exact g2 K'⟩
  | (o, some j) :: l, i, lds, efs, t, M, K, r, h => by
    simp only [drawK] at h
    obtain ⟨t1, M1, h1, g1⟩ := fillK_nx h
    obtain ⟨t2, M2, h2, g2⟩ := drawK_nx pairs base l _ _ _ h1
    exact ⟨t2, M2, h2, fun K' => by simp only [drawK]; rw [g1]; exact g2 K'⟩

theorem code_nx (hn : NaRec rec) : ∀ (a : ACode) (t : List Value) (A : AMem), NaX fun K => code rec a K t A := by
  intro a
  induction a with
  | skip => intro t A K r h; exact ⟨_, _, _, h, fun K' => rfl⟩
  | ops l =>
    intro t A K r h
    obtain ⟨t', M', h1, g⟩ := opsK_nx l h
    exact ⟨_, _, _, h1, fun K' => g _⟩
  | draw first nres l chk =>
    intro t A K r h
    obtain ⟨t1, M1, h1, g1⟩ := opsK_nx first h
    obtain ⟨t2, M2, h2, g2⟩ := drawK_nx chk M1.length l 0 [] [] h1
    exact ⟨_, _, _, h2, fun K' => by simp only [code]; rw [g1]; exact g2 _⟩
  | seq a b iha ihb =>
    intro t A K r h
    obtain ⟨e, t1, A1, h1, g1⟩ := iha _ _ _ _ h
    cases e with
    | normal =>
      obtain ⟨e2, t2, A2, h2, g2⟩ := ihb _ _ _ _ h1
      exact ⟨e2, t2, A2, h2, fun K' => (g1 _).trans (g2 K')⟩
    | exit i => exact ⟨_, _, _, h1, fun K' => g1 _⟩
    | ret => exact ⟨_, _, _, h1, fun K' => g1 _⟩
  | cond c a b iha ihb =>
    intro t A K r h
    simp only [code] at h ⊢
    split at h
    · rename_i q hq
      split at h
      · rename_i hqt
        obtain ⟨e, t1, A1, h1, g1⟩ := iha _ _ _ _ h
        exact ⟨e, t1, A1, h1, fun K' => by simp only [hqt, if_true]; exact g1 K'⟩
      · rename_i hqf
        obtain ⟨e, t1, A1, h1, g1⟩ := ihb _ _ _ _ h
        exact ⟨e, t1, A1, h1, fun K' => by simp only [hqf, if_false]; exact g1 K'⟩
    · cases h
  | block id b ih =>
    intro t A K r h
    obtain ⟨e, t1, A1, h1, g1⟩ := ih _ _ _ _ h
    cases e with
    | normal => exact ⟨_, _, _, h1, fun K' => g1 _⟩
    | exit i =>
      simp only [blockK] at h1
      split at h1
      · rename_i he
        exact ⟨_, _, _, h1, fun K' => (g1 _).trans (by simp only [blockK, he, if_true])⟩
      · rename_i he
        exact ⟨_, _, _, h1, fun K' => (g1 _).trans (by simp only [blockK, he, if_false])⟩
    | ret => exact ⟨_, _, _, h1, fun K' => g1 _⟩
  | loop b ih => intro t A K r h; exact hn.loop b t A K r h
  | rangeFunc f ps a b _ _ =>
    intro t A K r h
    simp only [code] at h ⊢
    split at h
    · rename_i fn first cap hf
      split at h
      · rename_i g
        obtain ⟨q, h1, h2⟩ := Option.bind_eq_some_iff.1 h
        split at h2
        · rename_i lr hl
          split at h2
          · cases h2
          · rename_i hb
            split at h2
            · rename_i hp
              exact ⟨_, _, _, h2, fun K' => by simp only [h1, Option.bind_some, hl, hb, if_false, hp]⟩
            · rename_i e hp
              exact ⟨_, _, _, h2, fun K' => by simp only [h1, Option.bind_some, hl, hb, if_false, hp]⟩
        · cases h2
      · cases h
    · cases h
  | exit id => intro t A K r h; exact ⟨_, _, _, h, fun K' => rfl⟩
  | ret => intro t A K r h; exact ⟨_, _, _, h, fun K' => rfl⟩
  | clear ts a ih =>
    intro t A K r h
    obtain ⟨e, t1, A1, h1, g1⟩ := ih (clearT t ts) A K r (by simpa only [code, clearF_eq] using h)
    exact ⟨e, t1, A1, h1, fun K' => by simp only [code, clearF_eq]; exact g1 K'⟩
  | post a ts ih =>
    intro t A K r h
    obtain ⟨e, t1, A1, h1, g1⟩ := ih _ _ _ _ h
    cases e with
    | normal => exact ⟨.normal, clearT t1 ts, A1, by simpa only [postK, clearF_eq] using h1, fun K' => (g1 (postK ts K')).trans (by simp only [postK, clearF_eq])⟩
    | exit i => exact ⟨_, _, _, h1, fun K' => g1 (postK ts K')⟩
    | ret => exact ⟨_, _, _, h1, fun K' => g1 (postK ts K')⟩

theorem run_nx (E : Env) : ∀ n, NaRec (run E n)
  | 0 => ⟨fun b t M K r h => (by cases h)⟩
  | n + 1 => ⟨fun b t M K r h => by
      have ih := run_nx E n
      have h' : code (run E n) b (loopK (run E n) b K) t M = some r := h
      obtain ⟨e, t1, A1, h1, g1⟩ := code_nx ih _ _ _ _ _ h'
      cases e with
      | normal =>
        obtain ⟨e2, t2, A2, h2, g2⟩ := ih.loop _ _ _ _ _ h1
        exact ⟨e2, t2, A2, h2, fun K' => (g1 (loopK (run E n) b K')).trans (g2 K')⟩
      | exit i => exact ⟨_, _, _, h1, fun K' => g1 (loopK (run E n) b K')⟩
      | ret => exact ⟨_, _, _, h1, fun K' => g1 (loopK (run E n) b K')⟩⟩

/-! #### more fuel, more answers -/

structure LeRec (r1 r2 : Rec) : Prop where
  call : ∀ f args A r, r1.call f args A = some r → r2.call f args A = some r
  round : ∀ l args A r, r1.round l args A = some r → r2.round l args A = some r
  loop : ∀ b K t A r, r1.loop b K t A = some r → r2.loop b K t A = some r

theorem LeRec.refl (r1 : Rec) : LeRec r1 r1 := ⟨fun _ _ _ _ h => h, fun _ _ _ _ h => h, fun _ _ _ _ _ h => h⟩
theorem LeRec.trans {r1 r2 r3 : Rec} (h : LeRec r1 r2) (k : LeRec r2 r3) : LeRec r1 r3 :=
  ⟨fun _ _ _ _ e => k.call _ _ _ _ (h.call _ _ _ _ e), fun _ _ _ _ e => k.round _ _ _ _ (h.round _ _ _ _ e), fun _ _ _ _ _ e => k.loop _ _ _ _ _ (h.loop _ _ _ _ _ e)⟩

variable {r1 r2 : Rec}

theorem opV_le (hle : LeRec r1 r2) {op : AOp} {t : List Value} {M : AMem} {r : Value × AMem} (h : opV r1 op t M = some r) : opV r2 op t M = some r := by
  unfold opV at h ⊢
  cases op <;> try exact h
  case call flat f args ret single =>
    simp only [opK] at h ⊢
    split at h
    · split at h
      · split at h
        · rename_i hf
          rw [if_pos hf]
          split at h
          · rename_i hc
            rw [if_pos hc]
            obtain ⟨q, h1, h2⟩ := Option.bind_eq_some_iff.1 h
            rw [hle.call _ _ _ _ h1]; exact h2
          · cases h
        · rename_i hf
          rw [if_neg hf]
          obtain ⟨q, h1, h2⟩ := Option.bind_eq_some_iff.1 h
          rw [hle.call _ _ _ _ h1]; exact h2
      · split at h
        · cases h
        · rename_i hf
          simp only [hf, Bool.false_eq_true, if_false]
          obtain ⟨q, h1, h2⟩ := Option.bind_eq_some_iff.1 h
          rw [hle.round _ _ _ _ h1]; exact h2
      · cases h
    · cases h

theorem operR_le (hle : LeRec r1 r2) {o : AOper} {t : List Value} {M : AMem} {r : Value × AMem} (h : operR r1 o t M = some r) : operR r2 o t M = some r := by
  unfold operR at h ⊢
  split at h
  · exact opV_le hle h
  · split at h
    · split at h
      · rename_i hb; rw [if_pos hb]; exact opV_le hle h
      · rename_i hb; rw [if_neg hb]; exact h
    · exact h
    · cases h

theorem operK_le (hle : LeRec r1 r2) {o : AOper} {t : List Value} {M : AMem} {K : List Value → AMem → Res} {r : Value × AMem} (h : operK r1 o t M K = some r) : operK r2 o t M K = some r := by
  rw [operK_na] at h ⊢
  obtain ⟨p, h1, h2⟩ := Option.bind_eq_some_iff.1 h
  rw [operR_le hle h1]; exact h2

theorem opsK_le (hle : LeRec r1 r2) : ∀ (l : List AOper) {t : List Value} {M : AMem} {K : List Value → AMem → Res} {r : Value × AMem}, opsK r1 l t M K = some r → opsK r2 l t M K = some r
  | [], t, M, K, r, h => h
  | o :: l, t, M, K, r, h => by
    obtain ⟨t1, M1, h1, g1⟩ := operK_nx h
    have := operK_le hle h
    simp only [opsK]
    have k : operK r2 o t M (fun t M => opsK r1 l t M K) = some r := this
    obtain ⟨t2, M2, h2, g2⟩ := operK_nx k
    rw [g2]; exact opsK_le hle l h2

theorem drawK_le (hle : LeRec r1 r2) (pairs : List (Nat × Nat)) (base : Nat) : ∀ (l : List (AOper × Option Nat)) (i : Nat) (lds : List (Nat × Nat)) (efs : List (Nat × AMem × AMem)) {t : List Value} {M : AMem}
    {K : List Value → AMem → Res} {r : Value × AMem}, drawK r1 pairs base l i lds efs t M K = some r → drawK r2 pairs base l i lds efs t M K = some r
  | [], i, lds, efs, t, M, K, r, h => h
  | (o, none) :: l, i, lds, efs, t, M, K, r, h => by
    simp only [drawK] at h ⊢
    have k := operK_le hle h
    obtain ⟨t2, M2, h2, g2⟩ := operK_nx k
    rw [g2]; exact drawK_le hle pairs base l _ _ _ h2
  | (o, some j) :: l, i, lds, efs, t, M, K, r, h => by
    simp only [drawK] at h ⊢
    obtain ⟨t2, M2, h2, g2⟩ := fillK_nx h
    rw [g2]; exact drawK_le hle pairs base l _ _ _ h2

theorem code_le (hle : LeRec r1 r2) (hn : NaRec r2) : ∀ (a : ACode) (K : KT) (t : List Value) (A : AMem) (r : Value × AMem), code r1 a K t A = some r → code r2 a K t A = some r := by
  intro a
  induction a with
  | skip => intro K t A r h; exact h
  | ops l => intro K t A r h; exact opsK_le hle l h
  | draw first nres l chk =>
    intro K t A r h
    simp only [code] at h ⊢
    have k := opsK_le hle first h
    obtain ⟨t2, M2, h2, g2⟩ := opsK_nx first k
    rw [g2]; exact drawK_le hle chk _ l 0 [] [] h2
  | seq a b iha ihb =>
    intro K t A r h
    have k := iha _ _ _ _ h
    obtain ⟨e, t1, A1, h1, g1⟩ := code_nx hn a t A _ _ k
    refine (g1 (seqK (code r2 b K) K)).trans ?_
    cases e with
    | normal => exact ihb _ _ _ _ h1
    | exit i => exact h1
    | ret => exact h1
  | cond c a b iha ihb =>
    intro K t A r h
    simp only [code] at h ⊢
    split at h
    · split at h
      · rename_i hq; rw [if_pos hq]; exact iha _ _ _ _ h
      · rename_i hq; rw [if_neg hq]; exact ihb _ _ _ _ h
    · cases h
  | block id b ih => intro K t A r h; exact ih _ _ _ _ h
  | loop b ih => intro K t A r h; exact hle.loop b K t A r h
  | rangeFunc f ps a b _ _ =>
    intro K t A r h
    simp only [code] at h ⊢
    split at h
    · split at h
      · obtain ⟨q, h1, h2⟩ := Option.bind_eq_some_iff.1 h
        rw [hle.call _ _ _ _ h1]; exact h2
      · cases h
    · cases h
  | exit id => intro K t A r h; exact h
  | ret => intro K t A r h; exact h
  | clear ts a ih =>
    intro K t A r h
    simp only [code, clearF_eq] at h ⊢
    exact ih _ _ _ _ h
  | post a ts ih => intro K t A r h; exact ih _ _ _ _ h

theorem enterF_le (hle : LeRec r1 r2) (hn : NaRec r2) {f : AFun} {args : List Value} {A : AMem} {r : Value × AMem} (h : enterF r1 f args A = some r) : enterF r2 f args A = some r := by
  unfold enterF at h ⊢
  split at h
  · rename_i hc; rw [if_pos hc]; exact code_le hle hn _ _ _ _ _ h
  · cases h

theorem roundF_le (hle : LeRec r1 r2) (hn : NaRec r2) {l : Nat} {args : List Value} {A : AMem} {r : Value × AMem} (h : roundF r1 l args A = some r) : roundF r2 l args A = some r := by
  unfold roundF at h ⊢
  split at h
  · split at h
    · rename_i hc
      rw [if_pos hc]
      have k := code_le hle hn _ _ _ _ _ h
      obtain ⟨e, t1, A1, h1, g1⟩ := code_nx hn _ _ _ _ _ k
      refine (g1 _).trans ?_
      cases e with
      | normal =>
        simp only at h1 ⊢
        split at h1
        · split at h1
          · rename_i hr; rw [if_pos hr]; exact code_le hle hn _ _ _ _ _ h1
          · cases h1
        · cases h1
      | exit i => exact h1
      | ret => exact h1
    · cases h
  · cases h

theorem loopF_le (hle : LeRec r1 r2) (hn : NaRec r2) {b : ACode} {K : KT} {t : List Value} {A : AMem} {r : Value × AMem} (h : code r1 b (loopK r1 b K) t A = some r) : code r2 b (loopK r2 b K) t A = some r := by
  have k := code_le hle hn _ _ _ _ _ h
  obtain ⟨e, t1, A1, h1, g1⟩ := code_nx hn _ _ _ _ _ k
  refine (g1 (loopK r2 b K)).trans ?_
  cases e with
  | normal => exact hle.loop _ _ _ _ _ h1
  | exit i => exact h1
  | ret => exact h1

theorem run_succ (E : Env) : ∀ n, LeRec (run E n) (run E (n + 1))
  | 0 => ⟨fun _ _ _ _ h => (by cases h), fun _ _ _ _ h => (by cases h), fun _ _ _ _ _ h => (by cases h)⟩
  | n + 1 => by
    have ih := run_succ E n
    have hn := run_nx E (n + 1)
    refine ⟨fun f args A r h => ?_, fun l args A r h => ?_, fun b K t A r h => ?_⟩
    · have h' : (match E.ext f with
          | some h => h args A
          | none => match E.fn f with
            | some a => enterF (run E n) a args A
            | none => none) = some r := h
      show (match E.ext f with
          | some h => h args A
          | none => match E.fn f with
            | some a => enterF (run E (n + 1)) a args A
            | none => none) = some r
      split at h'
      · exact h'
      · split at h'
        · exact enterF_le ih hn h'
        · cases h'
    · exact roundF_le ih hn h
    · exact loopF_le ih hn h

theorem run_le (E : Env) {n m : Nat} (h : n ≤ m) : LeRec (run E n) (run E m) := by
  induction h with
  | refl => exact .refl _
  | step _ ih => exact ih.trans (run_succ E _)

/-! #### without fuel -/

open Classical in
noncomputable def lim (E : Env) : Rec where
  call := fun f args A => if h : ∃ n r, (run E n).call f args A = some r then some h.choose_spec.choose else none
  round := fun l args A => if h : ∃ n r, (run E n).round l args A = some r then some h.choose_spec.choose else none
  loop := fun b K t A => if h : ∃ n r, (run E n).loop b K t A = some r then some h.choose_spec.choose else none

theorem lim_call_iff {E : Env} {f : FuncId} {args : List Value} {A : AMem} {r : Value × AMem} : (lim E).call f args A = some r ↔ ∃ n, (run E n).call f args A = some r := by
  constructor
  · intro h
    simp only [lim] at h
    split at h
    · rename_i hx
      have := hx.choose_spec.choose_spec
      cases h
      exact ⟨_, this⟩
    · cases h
  · rintro ⟨n, h⟩
    have hx : ∃ n r, (run E n).call f args A = some r := ⟨n, r, h⟩
    simp only [lim]
    rw [dif_pos hx]
    have h1 := (run_le E (Nat.le_max_left n hx.choose)).call _ _ _ _ h
    have h2 := (run_le E (Nat.le_max_right n hx.choose)).call _ _ _ _ hx.choose_spec.choose_spec
    rw [h1] at h2; exact h2.symm

theorem lim_round_iff {E : Env} {f : Nat} {args : List Value} {A : AMem} {r : Value × AMem} : (lim E).round f args A = some r ↔ ∃ n, (run E n).round f args A = some r := by
  constructor
  · intro h
    simp only [lim] at h
    split at h
    · rename_i hx
      have := hx.choose_spec.choose_spec
      cases h
      exact ⟨_, this⟩
    · cases h
  · rintro ⟨n, h⟩
    have hx : ∃ n r, (run E n).round f args A = some r := ⟨n, r, h⟩
    simp only [lim]
    rw [dif_pos hx]
    have h1 := (run_le E (Nat.le_max_left n hx.choose)).round _ _ _ _ h
    have h2 := (run_le E (Nat.le_max_right n hx.choose)).round _ _ _ _ hx.choose_spec.choose_spec
    rw [h1] at h2; exact h2.symm

theorem lim_loop_iff {E : Env} {b : ACode} {K : KT} {t : List Value} {A : AMem} {r : Value × AMem} : (lim E).loop b K t A = some r ↔ ∃ n, (run E n).loop b K t A = some r := by
  constructor
  · intro h
    simp only [lim] at h
    split at h
    · rename_i hx
      have := hx.choose_spec.choose_spec
      cases h
      exact ⟨_, this⟩
    · cases h
  · rintro ⟨n, h⟩
    have hx : ∃ n r, (run E n).loop b K t A = some r := ⟨n, r, h⟩
    simp only [lim]
    rw [dif_pos hx]
    have h1 := (run_le E (Nat.le_max_left n hx.choose)).loop _ _ _ _ _ h
    have h2 := (run_le E (Nat.le_max_right n hx.choose)).loop _ _ _ _ _ hx.choose_spec.choose_spec
    rw [h1] at h2; exact h2.symm

theorem run_lim (E : Env) (n : Nat) : LeRec (run E n) (lim E) :=
  ⟨fun _ _ _ _ h => lim_call_iff.2 ⟨n, h⟩, fun _ _ _ _ h => lim_round_iff.2 ⟨n, h⟩, fun _ _ _ _ _ h => lim_loop_iff.2 ⟨n, h⟩⟩

theorem lim_nx (E : Env) : NaRec (lim E) := ⟨fun b t M K r h => by
  obtain ⟨n, hn⟩ := lim_loop_iff.1 h
  obtain ⟨e, t', M', h1, h2⟩ := (run_nx E n).loop b t M K r hn
  refine ⟨e, t', M', h1, fun K' => ?_⟩
  cases hk : K' e t' M' with
  | some r' => exact lim_loop_iff.2 ⟨n, (h2 K').trans hk⟩
  | none =>
    show (lim E).loop b K' t M = none
    cases hl : (lim E).loop b K' t M with
    | none => rfl
    | some r' =>
      exfalso
      obtain ⟨m, hm⟩ := lim_loop_iff.1 hl
      have k3 := (run_le E (Nat.le_max_right n m)).loop _ _ _ _ _ hm
      obtain ⟨e3, t3, M3, b1, b2⟩ := (run_nx E (max n m)).loop b t M K' r' k3
      classical
      let K0 : KT := fun e1 t1 M1 => if e1 = e ∧ t1 = t' ∧ M1 = M' then some (undef, []) else none
      have a1 : (run E n).loop b K0 t M = some (undef, []) := (h2 K0).trans (if_pos ⟨rfl, rfl, rfl⟩)
      have a2 := (run_le E (Nat.le_max_left n m)).loop _ _ _ _ _ a1
      have a3 : K0 e3 t3 M3 = some (undef, []) := (b2 K0).symm.trans a2
      by_cases hc : e3 = e ∧ t3 = t' ∧ M3 = M'
      · obtain ⟨rfl, rfl, rfl⟩ := hc
        rw [hk] at b1; cases b1
      · have : K0 e3 t3 M3 = none := if_neg hc
        rw [this] at a3; cases a3⟩

/-- What the limit does in code, some run does. -/
theorem opV_lim {E : Env} {op : AOp} {t : List Value} {M : AMem} {r : Value × AMem} (h : opV (lim E) op t M = some r) : ∃ n, opV (run E n) op t M = some r := by
  unfold opV at h ⊢
  cases op <;> try exact ⟨0, h⟩
  case call flat f args ret single =>
    simp only [opK] at h ⊢
    split at h
    · split at h
      · split at h
        · rename_i hf
          split at h
          · rename_i hc
            obtain ⟨q, h1, h2⟩ := Option.bind_eq_some_iff.1 h
            obtain ⟨n, hn⟩ := lim_call_iff.1 h1
            exact ⟨n, by rw [if_pos hf, if_pos hc, hn]; exact h2⟩
          · cases h
        · rename_i hf
          obtain ⟨q, h1, h2⟩ := Option.bind_eq_some_iff.1 h
          obtain ⟨n, hn⟩ := lim_call_iff.1 h1
          exact ⟨n, by rw [if_neg hf, hn]; exact h2⟩
      · split at h
        · cases h
        · rename_i hf
          obtain ⟨q, h1, h2⟩ := Option.bind_eq_some_iff.1 h
          obtain ⟨n, hn⟩ := lim_round_iff.1 h1
          exact ⟨n, by simp only [hf, Bool.false_eq_true, if_false, hn]; exact h2⟩
      · cases h
    · cases h

theorem operR_lim {E : Env} {o : AOper} {t : List Value} {M : AMem} {r : Value × AMem} (h : operR (lim E) o t M = some r) : ∃ n, operR (run E n) o t M = some r := by
  unfold operR at h ⊢
  split at h
  · exact opV_lim h
  · split at h
    · split at h
      · rename_i hb
        obtain ⟨n, hn⟩ := opV_lim h
        exact ⟨n, by simp only [hb, if_true]; exact hn⟩
      · rename_i hb; exact ⟨0, by simp only [hb, if_false]; exact h⟩
    · exact ⟨0, h⟩
    · cases h

theorem operK_lim {E : Env} {o : AOper} {t : List Value} {M : AMem} {K : List Value → AMem → Res} {r : Value × AMem} (h : operK (lim E) o t M K = some r) : ∃ n, operK (run E n) o t M K = some r := by
  rw [operK_na] at h
  obtain ⟨p, h1, h2⟩ := Option.bind_eq_some_iff.1 h
  obtain ⟨n, hn⟩ := operR_lim h1
  exact ⟨n, by rw [operK_na, hn]; exact h2⟩

theorem opsK_lim {E : Env} : ∀ (l : List AOper) {t : List Value} {M : AMem} {K : List Value → AMem → Res} {r : Value × AMem}, opsK (lim E) l t M K = some r → ∃ n, opsK (run E n) l t M K = some r
  | [], t, M, K, r, h => ⟨0, h⟩
  | o :: l, t, M, K, r, h => by
    obtain ⟨n1, h1⟩ := operK_lim h
    obtain ⟨t2, M2, h2, g2⟩ := operK_nx h1
    obtain ⟨n2, h3⟩ := opsK_lim l h2
    refine ⟨max n1 n2, ?_⟩
    have h4 := opsK_le (run_le E (Nat.le_max_right n1 n2)) l h3
    have h5 : operK (run E n1) o t M (fun t M => opsK (run E (max n1 n2)) l t M K) = some r := (g2 _).trans h4
    exact operK_le (run_le E (Nat.le_max_left n1 n2)) h5

theorem drawK_lim {E : Env} (pairs : List (Nat × Nat)) (base : Nat) : ∀ (l : List (AOper × Option Nat)) (i : Nat) (lds : List (Nat × Nat)) (efs : List (Nat × AMem × AMem)) {t : List Value} {M : AMem}
    {K : List Value → AMem → Res} {r : Value × AMem}, drawK (lim E) pairs base l i lds efs t M K = some r → ∃ n, drawK (run E n) pairs base l i lds efs t M K = some r
  | [], i, lds, efs, t, M, K, r, h => ⟨0, h⟩
  | (o, none) :: l, i, lds, efs, t, M, K, r, h => by
    simp only [drawK] at h ⊢
    obtain ⟨n1, h1⟩ := operK_lim h
    obtain ⟨t2, M2, h2, g2⟩ := operK_nx h1
    obtain ⟨n2, h3⟩ := drawK_lim pairs base l _ _ _ h2
    refine ⟨max n1 n2, ?_⟩
    have h4 := drawK_le (run_le E (Nat.le_max_right n1 n2)) pairs base l _ _ _ h3
    exact operK_le (run_le E (Nat.le_max_left n1 n2)) ((g2 _).trans h4)
  | (o, some j) :: l, i, lds, efs, t, M, K, r, h => by
    simp only [drawK] at h ⊢
    obtain ⟨t2, M2, h2, g2⟩ := fillK_nx h
    obtain ⟨n2, h3⟩ := drawK_lim pairs base l _ _ _ h2
    exact ⟨n2, (g2 _).trans h3⟩

theorem code_lim {E : Env} : ∀ (a : ACode) (K : KT) (t : List Value) (A : AMem) (r : Value × AMem), code (lim E) a K t A = some r → ∃ n, code (run E n) a K t A = some r := by
  intro a
  induction a with
  | skip => intro K t A r h; exact ⟨0, h⟩
  | ops l => intro K t A r h; exact opsK_lim l h
  | draw first nres l chk =>
    intro K t A r h
    simp only [code] at h ⊢
    obtain ⟨n1, h1⟩ := opsK_lim first h
    obtain ⟨t2, M2, h2, g2⟩ := opsK_nx first h1
    obtain ⟨n2, h3⟩ := drawK_lim chk _ l 0 [] [] h2
    refine ⟨max n1 n2, ?_⟩
    have h4 := drawK_le (run_le E (Nat.le_max_right n1 n2)) chk _ l 0 [] [] h3
    exact opsK_le (run_le E (Nat.le_max_left n1 n2)) first ((g2 _).trans h4)
  | seq a b iha ihb =>
    intro K t A r h
    obtain ⟨n1, h1⟩ := iha _ _ _ _ h
    obtain ⟨e, t2, M2, h2, g2⟩ := code_nx (run_nx E n1) a t A _ _ h1
    cases e with
    | normal =>
      obtain ⟨n2, h3⟩ := ihb _ _ _ _ h2
      refine ⟨max n1 n2, ?_⟩
      have h4 := code_le (run_le E (Nat.le_max_right n1 n2)) (run_nx E _) _ _ _ _ _ h3
      show code (run E (max n1 n2)) a (seqK (code (run E (max n1 n2)) b K) K) t A = some r
      exact code_le (run_le E (Nat.le_max_left n1 n2)) (run_nx E _) a _ _ _ _ ((g2 (seqK (code (run E (max n1 n2)) b K) K)).trans h4)
    | exit i => exact ⟨n1, (g2 (seqK (code (run E n1) b K) K)).trans h2⟩
    | ret => exact ⟨n1, (g2 (seqK (code (run E n1) b K) K)).trans h2⟩
  | cond c a b iha ihb =>
    intro K t A r h
    simp only [code] at h ⊢
    split at h
    · split at h
      · rename_i hq
        obtain ⟨n, hn⟩ := iha _ _ _ _ h
        exact ⟨n, by simp only [hq, if_true]; exact hn⟩
      · rename_i hq
        obtain ⟨n, hn⟩ := ihb _ _ _ _ h
        exact ⟨n, by simp only [hq, if_false]; exact hn⟩
    · cases h
  | block id b ih => intro K t A r h; exact ih _ _ _ _ h
  | loop b ih => intro K t A r h; exact lim_loop_iff.1 h
  | rangeFunc f ps a b _ _ =>
    intro K t A r h
    simp only [code] at h ⊢
    split at h
    · split at h
      · obtain ⟨q, h1, h2⟩ := Option.bind_eq_some_iff.1 h
        obtain ⟨n, hn⟩ := lim_call_iff.1 h1
        exact ⟨n, by rw [hn]; exact h2⟩
      · cases h
    · cases h
  | exit id => intro K t A r h; exact ⟨0, h⟩
  | ret => intro K t A r h; exact ⟨0, h⟩
  | clear ts a ih =>
    intro K t A r h
    simp only [code, clearF_eq] at h ⊢
    exact ih _ _ _ _ h
  | post a ts ih => intro K t A r h; exact ih _ _ _ _ h

theorem opt_eq {X : Type} {a b : Option X} (h1 : ∀ r, a = some r → b = some r) (h2 : ∀ r, b = some r → a = some r) : a = b := by
  cases a with
  | some x => exact (h1 x rfl).symm
  | none =>
    cases b with
    | none => rfl
    | some y => exact h2 y rfl

/-- A call, unfolded. -/
theorem lim_call {E : Env} {f : FuncId} {a : AFun} (hx : E.ext f = none) (hf : E.fn f = some a) (args : List Value) (A : AMem) : (lim E).call f args A = enterF (lim E) a args A := by
  have unf : ∀ n, (run E (n + 1)).call f args A = enterF (run E n) a args A := fun n => by
    show (match E.ext f with
          | some h => h args A
          | none => match E.fn f with
            | some a => enterF (run E n) a args A
            | none => none) = _
    rw [hx, hf]
  refine opt_eq (fun r h => ?_) fun r h => ?_
  · obtain ⟨n, hn⟩ := lim_call_iff.1 h
    have := (run_succ E n).call _ _ _ _ hn
    rw [unf] at this
    exact enterF_le (run_lim E n) (lim_nx E) this
  · have h0 := h
    unfold enterF at h
    split at h
    · rename_i hc
      obtain ⟨n, hn⟩ := code_lim _ _ _ _ _ h
      exact lim_call_iff.2 ⟨n + 1, by rw [unf]; unfold enterF; rw [if_pos hc]; exact hn⟩
    · cases h

theorem lim_ext {E : Env} {f : FuncId} {g : List Value → AMem → Res} (hx : E.ext f = some g) (args : List Value) (A : AMem) : (lim E).call f args A = g args A := by
  have unf : ∀ n, (run E (n + 1)).call f args A = g args A := fun n => by
    show (match E.ext f with
          | some h => h args A
          | none => match E.fn f with
            | some a => enterF (run E n) a args A
            | none => none) = _
    rw [hx]
  refine opt_eq (fun r h => ?_) fun r h => lim_call_iff.2 ⟨1, (unf 0).trans h⟩
  obtain ⟨n, hn⟩ := lim_call_iff.1 h
  have := (run_succ E n).call _ _ _ _ hn
  rw [unf] at this
  exact this

/-- A loop, unfolded once. -/
theorem lim_loop (E : Env) (b : ACode) (K : KT) (t : List Value) (A : AMem) : (lim E).loop b K t A = code (lim E) b (loopK (lim E) b K) t A := by
  refine opt_eq (fun r h => ?_) fun r h => ?_
  · obtain ⟨n, hn⟩ := lim_loop_iff.1 h
    have h' : code (run E n) b (loopK (run E n) b K) t A = some r := (run_succ E n).loop _ _ _ _ _ hn
    exact loopF_le (run_lim E n) (lim_nx E) h'
  · obtain ⟨n1, h1⟩ := code_lim _ _ _ _ _ h
    obtain ⟨e, t2, M2, h2, g2⟩ := code_nx (run_nx E n1) b t A _ _ h1
    cases e with
    | normal =>
      obtain ⟨n2, h3⟩ := lim_loop_iff.1 (show (lim E).loop b K t2 M2 = some r from h2)
      refine lim_loop_iff.2 ⟨max n1 n2 + 1, ?_⟩
      show code (run E (max n1 n2)) b (loopK (run E (max n1 n2)) b K) t A = some r
      have h4 := (run_le E (Nat.le_max_right n1 n2)).loop _ _ _ _ _ h3
      exact code_le (run_le E (Nat.le_max_left n1 n2)) (run_nx E _) _ _ _ _ _ ((g2 (loopK (run E (max n1 n2)) b K)).trans h4)
    | exit i => exact lim_loop_iff.2 ⟨n1 + 1, (g2 (loopK (run E n1) b K)).trans h2⟩
    | ret => exact lim_loop_iff.2 ⟨n1 + 1, (g2 (loopK (run E n1) b K)).trans h2⟩

/-- A round, unfolded. -/
theorem lim_round (E : Env) (l : Nat) (args : List Value) (A : AMem) : (lim E).round l args A = roundF (lim E) l args A := by
  refine opt_eq (fun r h => ?_) fun r h => ?_
  · obtain ⟨n, hn⟩ := lim_round_iff.1 h
    have h' : roundF (run E n) l args A = some r := (run_succ E n).round _ _ _ _ hn
    exact roundF_le (run_lim E n) (lim_nx E) h'
  · unfold roundF at h
    split at h
    · rename_i r0 hr0
      split at h
      · rename_i hc
        obtain ⟨n1, h1⟩ := code_lim _ _ _ _ _ h
        obtain ⟨e, t2, M2, h2, g2⟩ := code_nx (run_nx E n1) _ _ _ _ _ h1
        cases e with
        | normal =>
          simp only at h2
          split at h2
          · rename_i r2 hr2
            split at h2
            · rename_i hst
              obtain ⟨n2, h3⟩ := code_lim _ _ _ _ _ h2
              refine lim_round_iff.2 ⟨max n1 n2 + 1, ?_⟩
              show roundF (run E (max n1 n2)) l args A = some r
              unfold roundF
              simp only [hr0]
              rw [if_pos hc]
              refine code_le (run_le E (Nat.le_max_left n1 n2)) (run_nx E _) _ _ _ _ _ ((g2 _).trans ?_)
              simp only [hr2]
              rw [if_pos hst]
              exact code_le (run_le E (Nat.le_max_right n1 n2)) (run_nx E _) _ _ _ _ _ h3
            · cases h2
          · cases h2
        | exit i => cases h2
        | ret => cases h2
      · cases h
    · cases h

end
end Go.Ax
