/- Code, loops, rounds, functions: what the interpreter tells, the model does. -/
import Derived.Test.YtjmeilpffmhojaaAxOpers
set_option linter.unusedVariables false
set_option linter.unusedSimpArgs false
namespace Go.Ax
open Go Go.RowKit

section
variable {P : Program} {base : Nat} {A : AMem} {ι : Iota} {W : World}

theorem Post.trans {lo : Nat} {K : KT} {r : Value × AMem} {A' : AMem} {ι' : Iota} {W' : World} (h : Ev base A ι W A' ι' W') {e : Exit} {a : Act} {w : World}
    (k : Post P base lo K r A' ι' W' e a w) : Post P base lo K r A ι W e a w := by
  obtain ⟨ae, t, A2, ι2, k1, k2, k3, k4, k5, k6⟩ := k
  exact ⟨ae, t, A2, ι2, k1, k2, k3, k4, k5, h.trans k6⟩

/-- The post of a piece, seen from a later point. -/
theorem CodeOk.from {c : Code} {ex : KT → List Value → AMem → Res} (h : CodeOk P c ex) {K : KT} {t : List Value} {A' : AMem} {r : Value × AMem} (hk : ex K t A' = some r) {ro : Option Nat} {n lo : Nat}
    {ι' : Iota} {W' : World} {act : Act} (hr : RoundOk ro W') (hs : Sim P base A' ι' W') (ht : LRel A' ι' W' t act.tmps.toList) (hd : DRel lo W' act.defers) (hlo : lo ≤ W'.heap.size) (hb : base ≤ lo)
    (hev : Ev base A ι W A' ι' W') : c.wpIn (FW ro) n P (Post P base lo K r A ι W) act W' :=
  wpIn_mono (h K t A' r hk ro n base lo ι' W' act hr hs ht hd hlo hb) fun _ _ _ q => q.trans hev

theorem seq_ok {c1 c2 : Code} {ex1 ex2 : KT → List Value → AMem → Res} (h1 : CodeOk P c1 ex1) (h2 : CodeOk P c2 ex2) : CodeOk P (.seq c1 c2) (fun K t M => ex1 (seqK (ex2 K) K) t M) := by
  intro K t A r hk ro n base lo ι W act hr hs ht hd hlo hb
  refine wpIn_seq (wpIn_mono (h1 _ t A r hk ro n base lo ι W act hr hs ht hd hlo hb) ?_)
  rintro e a w ⟨ae, t', A', ι', k1, k2, k3, k4, k5, k6⟩
  cases k2 with
  | normal => exact h2.from k1 (hr.ev k6) k3 k4 k5 (Nat.le_trans hlo k6.size) hb k6
  | exit id => exact ⟨_, t', A', ι', k1, .exit id, k3, k4, k5, k6⟩
  | ret => exact ⟨_, t', A', ι', k1, .ret, k3, k4, k5, k6⟩

theorem block_ok {id : Nat} {c : Code} {ex : KT → List Value → AMem → Res} (h : CodeOk P c ex) : CodeOk P (.block id c) (fun K t M => ex (blockK id K) t M) := by
  intro K t A r hk ro n base lo ι W act hr hs ht hd hlo hb
  refine wpIn_block (wpIn_mono (h _ t A r hk ro n base lo ι W act hr hs ht hd hlo hb) ?_)
  rintro e a w ⟨ae, t', A', ι', k1, k2, k3, k4, k5, k6⟩
  cases k2 with
  | normal => exact ⟨_, t', A', ι', k1, .normal, k3, k4, k5, k6⟩
  | exit i =>
    simp only [blockK] at k1
    simp only [Exit.inBlock]
    split at k1
    · rename_i he; rw [if_pos he]; exact ⟨_, t', A', ι', k1, .normal, k3, k4, k5, k6⟩
    · rename_i he; rw [if_neg he]; exact ⟨_, t', A', ι', k1, .exit i, k3, k4, k5, k6⟩
  | ret => exact ⟨_, t', A', ι', k1, .ret, k3, k4, k5, k6⟩

theorem post_K {lo : Nat} {K K' : KT} {r : Value × AMem} (hK : ∀ e t M, K e t M = some r → ∃ t', K' e t' M = some r ∧ ∀ (A : AMem) (ι : Iota) (W : World) (l : List Value), LRel A ι W t l → LRel A ι W t' l)
    {e : Exit} {a : Act} {w : World} (h : Post P base lo K r A ι W e a w) : Post P base lo K' r A ι W e a w := by
  obtain ⟨ae, t', A', ι', k1, k2, k3, k4, k5, k6⟩ := h
  obtain ⟨t2, q1, q2⟩ := hK _ _ _ k1
  exact ⟨ae, t2, A', ι', q1, k2, k3, q2 _ _ _ _ k4, k5, k6⟩

theorem clear_rel {l : List Value} : ∀ (ts : List Nat) (t : List Value), LRel A ι W t l → LRel A ι W (clearT t ts) l
  | [], t, h => h
  | i :: ts, t, h => by
    refine clear_rel ts _ ?_
    refine ⟨by simp [h.1], fun j u u' a b => ?_⟩
    rw [List.getElem?_set] at a
    split at a
    · split at a
      · cases a; exact .junk _
      · cases a
    · exact h.2 j u u' a b

theorem clear_ok {c : Code} {ex : KT → List Value → AMem → Res} (h : CodeOk P c ex) (ts : List Nat) : CodeOk P c (fun K t M => clearF t ts fun t => ex K t M) := by
  intro K t A r hk ro n base lo ι W act hr hs ht hd hlo hb
  exact h K (clearT t ts) A r (by simpa only [clearF_eq] using hk) ro n base lo ι W act hr hs (clear_rel ts t ht) hd hlo hb

theorem post_ok {c : Code} {ex : KT → List Value → AMem → Res} (h : CodeOk P c ex) (ts : List Nat) : CodeOk P c (fun K t M => ex (postK ts K) t M) := by
  intro K t A r hk ro n base lo ι W act hr hs ht hd hlo hb
  refine wpIn_mono (h _ t A r hk ro n base lo ι W act hr hs ht hd hlo hb) fun e a w q => post_K (fun e t M hk => ?_) q
  cases e with
  | normal => exact ⟨clearT t ts, by simpa only [postK, clearF_eq] using hk, fun A ι W l hl => clear_rel ts t hl⟩
  | exit i => exact ⟨_, hk, fun A ι W l hl => hl⟩
  | ret => exact ⟨_, hk, fun A ι W l hl => hl⟩

/-! #### the loop's record -/

theorem Sim.setLoop (h : Sim P base A ι W) {a b o : Nat} {l l2 : ALoop} {l' l2' : Loop} (hi : ι a = some (b, o)) (hA : A[a]? = some (.loop l)) (hW : W.heap[b]? = some (.loop l')) (hrel : LoopRel P A ι W l2 l2') :
    Sim P base (A.set a (.loop l2)) ι (W.putObj b (.loop l2')) ∧ Ev base A ι W (A.set a (.loop l2)) ι (W.putObj b (.loop l2')) := by
  have halt := h.lt hi
  have hblt : b < W.heap.size := (Array.getElem?_eq_some_iff.1 hW).1
  obtain ⟨l'', hW2, _, hbase⟩ := h.loop a b o l hi hA
  have hget : ∀ a' : Nat, a' ≠ a → (A.set a (AObj.loop l2))[a']? = A[a']? := fun a' e => by rw [List.getElem?_set, if_neg (Ne.symm e)]
  have hself : (A.set a (AObj.loop l2))[a]? = some (.loop l2) := by rw [List.getElem?_set, if_pos rfl, if_pos halt]
  have hoth : ∀ k, k ≠ b → (W.putObj b (.loop l2')).heap[k]? = W.heap[k]? := fun k hk => World.putObj_heap_other hk
  have hsame := World.putObj_heap_same (o := .loop l2') hblt
  have hsz : ∀ k, szW W k ≤ szW (W.putObj b (.loop l2')) k := fun k => by
    unfold szW
    by_cases e : k = b
    · subst e; rw [hW]; exact Nat.zero_le _
    · rw [hoth k e]; exact Nat.le_refl _
  have hle : Le A ι W (A.set a (.loop l2)) ι (W.putObj b (.loop l2')) := Le.put a b o hget (fun _ _ => rfl) hi ⟨by rw [hA]; simp, .inr hi⟩ (by simp) hsz (fun cs0 m0 e => by rw [hA] at e; cases e)
  refine ⟨h.put a b o _ hget hself (fun _ _ => rfl) hi hle (fun a' o' hne hi' => h.sep a a' b o o' (Ne.symm hne) hi hi' (.inr ⟨l, hA⟩)) (fun k hk _ => hoth k hk) (by simp) (fun cs m e => by cases e) (fun l0 e => ?_) (fun cs m e => by cases e), ?_⟩
  · cases e
    exact ⟨l2', hsame, hrel.mono hle, hbase⟩
  · refine ⟨hle, ⟨rfl, rfl, rfl, by simp, fun k hk => hoth k (by omega)⟩, fun r ds e => ?_, fun r lr e => ?_⟩
    · by_cases er : r = b
      · subst er; rw [hW] at e; cases e
      · rw [hoth r er]; exact e
    · by_cases er : r = b
      · subst er; exact ⟨l2', hsame⟩
      · exact ⟨lr, by rw [hoth r er]; exact e⟩

/-- A new loop's record. -/
theorem Sim.newLoop (h : Sim P base A ι W) (hb : base ≤ W.heap.size) {l : ALoop} {l' : Loop} (hrel : LoopRel P A ι W l l') :
    Sim P base (A ++ [.loop l]) (upd ι A.length W.heap.size 0) (W.alloc (.loop l')) ∧ Ev base A ι W (A ++ [.loop l]) (upd ι A.length W.heap.size 0) (W.alloc (.loop l')) := by
  have hA : ∀ a : Nat, a ≠ A.length → (A ++ [AObj.loop l])[a]? = A[a]? := fun a ha => by
    by_cases hlt : a < A.length
    · rw [List.getElem?_append_left hlt]
    · rw [List.getElem?_eq_none (by simp; omega), List.getElem?_eq_none (by omega)]
  have hx : (A ++ [AObj.loop l])[A.length]? = some (.loop l) := by simp
  have hle : Le A ι W (A ++ [.loop l]) (upd ι A.length W.heap.size 0) (W.alloc (.loop l')) :=
    Le.put A.length W.heap.size 0 hA (upd_other A.length _ _) (upd_same _ _ _) ⟨by simp, .inl ⟨h.fresh, Nat.le_refl _⟩⟩ (by simp) (szW_alloc _) (fun cs0 m0 e => by simp at e)
  obtain ⟨e1, e2, e3⟩ := Ev.alloc_w (W := W) hb (.loop l')
  refine ⟨h.put A.length W.heap.size 0 _ hA hx (upd_other A.length _ _) (upd_same _ _ _) hle (fun a o _ hi => ?_) (fun b _ hlt => Below.heap_alloc _ _ _ hlt) (by simp) (fun cs m e => by cases e) (fun l0 e => ?_) (fun cs m e => by cases e), ⟨hle, e1, e2, e3⟩⟩
  · by_cases hd : A[a]? = some .dead
    · exact hd
    · exact absurd (h.inW hi hd) (Nat.lt_irrefl _)
  · cases e
    exact ⟨l', heap_alloc_self _, hrel.mono hle, hb⟩

/-- A block of the model's that is no cells and no record turns. -/
theorem Sim.putDef (h : Sim P base A ι W) {b : Nat} {ds ds' : Option (List Deferred)} (hW : W.heap[b]? = some (.deferred ds)) : Sim P base A ι (W.putObj b (.deferred ds')) := by
  have hblt : b < W.heap.size := (Array.getElem?_eq_some_iff.1 hW).1
  have hoth : ∀ k, k ≠ b → (W.putObj b (.deferred ds')).heap[k]? = W.heap[k]? := fun k hk => World.putObj_heap_other hk
  have hsz : ∀ k, szW W k ≤ szW (W.putObj b (.deferred ds')) k := fun k => by
    unfold szW
    by_cases e : k = b
    · subst e; rw [hW]; exact Nat.zero_le _
    · rw [hoth k e]; exact Nat.le_refl _
  have hle : Le A ι W A ι (W.putObj b (.deferred ds')) := ⟨fun _ h => h, fun _ _ _ h => .inr h, hsz, .refl _, Nat.le_refl _, fun _ _ h => h⟩
  refine ⟨h.has, fun a b' o cs m hi hcs => ?_, fun a b' o l hi hcs => ?_, h.leaf, h.sep⟩
  · obtain ⟨cs', t, fr, hb, q1, q2, q3⟩ := h.cells a b' o cs m hi hcs
    refine ⟨cs', t, fr, by rw [hoth b' (fun e => by subst e; rw [hW] at hb; cases hb)]; exact hb, q1, fun j v hv => ?_, q3⟩
    obtain ⟨v', r1, r2⟩ := q2 j v hv
    exact ⟨v', r1, r2.mono hle⟩
  · obtain ⟨l', hb, q1, q2⟩ := h.loop a b' o l hi hcs
    exact ⟨l', by rw [hoth b' (fun e => by subst e; rw [hW] at hb; cases hb)]; exact hb, q1.mono hle, q2⟩

theorem Le.putDef {b : Nat} {ds ds' : Option (List Deferred)} (hW : W.heap[b]? = some (.deferred ds)) : Le A ι W A ι (W.putObj b (.deferred ds')) := by
  refine ⟨fun _ h => h, fun _ _ _ h => .inr h, fun k => ?_, .refl _, Nat.le_refl _, fun _ _ h => h⟩
  unfold szW
  by_cases e : k = b
  · subst e; rw [hW]; exact Nat.zero_le _
  · rw [World.putObj_heap_other e]; exact Nat.le_refl _

def codeOf : AExit → Option Code
  | .normal => none
  | .exit id => some (.exit id)
  | .ret => some .ret

theorem pend_code {e : AExit} (he : e ≠ .normal) : pendRel (some e) (codeOf e) := by
  cases e with
  | normal => exact absurd rfl he
  | exit id => rfl
  | ret => trivial

/-! #### a range over a function -/

theorem rangeFunc_ok {rec : Rec} (hrec : RecOk P rec) {f : Operand} {ps : Array Tmp} {a b : Code} {aa ab : ACode} (ha : comp P a = some (erase aa)) (hb' : comp P b = some (erase ab)) :
    CodeOk P (.rangeFunc f ps a b) (code rec (.rangeFunc f ps.toList aa ab)) := by
  intro K t A r hk ro n base lo ι W act hr hs ht hd hlo hb
  simp only [code] at hk
  split at hk
  · rename_i fn first cap hev
    split at hk
    · rename_i g
      obtain ⟨q, h1, h2⟩ := Option.bind_eq_some_iff.1 hk
      split at h2
      · rename_i lr hlr
        split at h2
        · cases h2
        · rename_i hbusy
          refine wpIn_rangeFunc fun fnid _ => ?_
          -- the record is laid
          have enter : ∃ (mark : List Deferred) (W0 : World) (dfb : Nat), (Instr.enterLoop fnid act.tmps ps a b (FW ro).round).run P W = .ok (W0.heap.size, mark) (W0.alloc (.loop { state := .ready, pending := none, fn := fnid, tmps := act.tmps, params := ps, assign := a, body := b, defers := dfb })) ∧
              Sim P base A ι W0 ∧ Ev base A ι W A ι W0 ∧ DRel lo W0 (mark ++ act.defers) := by
            cases ro with
            | none =>
              have e := run_enterLoop_outer (P := P) (w := W) fnid act.tmps ps a b
              obtain ⟨s1, ev1⟩ := hs.allocW (Nat.le_trans hb hlo) (.deferred (some []))
              refine ⟨[{ target := .collected W.heap.size, args := #[] }], W.alloc (.deferred (some [])), W.heap.size, ?_, s1, ev1, ?_⟩
              · rw [show (FW none).round = none from rfl, e]; simp only [World.size_alloc]
              · obtain ⟨rs, d1, d2, d3⟩ := hd
                refine ⟨W.heap.size :: rs, by simp [d1], List.nodup_cons.2 ⟨fun hm => ?_, d2⟩, fun x hx => ?_⟩
                · have := (Array.getElem?_eq_some_iff.1 (d3 _ hm).2).1; omega
                · rcases List.mem_cons.1 hx with rfl | hx
                  · exact ⟨hlo, heap_alloc_self _⟩
                  · exact ⟨(d3 x hx).1, ev1.deferred x _ (d3 x hx).2⟩
            | some l0 =>
              obtain ⟨r0, hr0⟩ := hr l0 rfl
              refine ⟨[], W, r0.defers, ?_, hs, .refl _ _ _ _, by simpa using hd⟩
              rw [show (FW (some l0)).round = some l0 from rfl]
              unfold Instr.enterLoop
              simp only [Sem.run_bind, run_getLoop hr0, Result.andThen_ok, Sem.run_pure, run_newObj]
              rfl
          obtain ⟨mark, W0, dfb, en1, s0, ev0, dr0⟩ := enter
          have ht0 := ht.mono ev0.le
          have hb0 : base ≤ W0.heap.size := Nat.le_trans (Nat.le_trans hb hlo) ev0.size
          have hlrel : LoopRel P A ι W0 ⟨.ready, none, t, ps.toList, aa, ab⟩ { state := .ready, pending := none, fn := fnid, tmps := act.tmps, params := ps, assign := a, body := b, defers := dfb } :=
            ⟨rfl, trivial, ht0, rfl, ha, hb'⟩
          generalize ({ state := .ready, pending := none, fn := fnid, tmps := act.tmps, params := ps, assign := a, body := b, defers := dfb } : Loop) = L at en1 hlrel
          generalize (⟨.ready, none, t, ps.toList, aa, ab⟩ : ALoop) = AL at h1 hlrel
          obtain ⟨s1, ev1⟩ := s0.newLoop hb0 hlrel
          have ev01 := ev0.trans ev1
          -- the call
          have hfv := (ev_rel (ht.mono ev01.le) f : VRel _ _ _ _ _)
          rw [hev] at hfv
          obtain ⟨x', y', hfe, hfx, hfy⟩ := func_inv hfv
          have hyl : VRel (A ++ [.loop AL]) (upd ι A.length W0.heap.size 0) (W0.alloc (.loop L)) (.func (.yield A.length) #[] #[]) (.func (.yield W0.heap.size) #[] #[]) := .yield _ _ (upd_same _ _ _)
          have hall := (hfx.append (LRel.cons hyl LRel.nil)).append hfy
          obtain ⟨hcf, hcalls⟩ := hrec.call g _ _ q h1 base _ _ (x' ++ #[.func (.yield W0.heap.size) #[] #[]] ++ y') s1 (by simpa using hall) (by simp; omega)
          refine ⟨W0.heap.size, mark, W0.alloc (.loop L), { target := .fn (.func g) y', args := x' ++ #[.func (.yield W0.heap.size) #[] #[]] }, W0.alloc (.loop L), g, x' ++ #[.func (.yield W0.heap.size) #[] #[]] ++ y', W0.alloc (.loop L), en1, ?_, fun _ _ => trivial, ?_, fun h => by simp [FW_depth] at h, ?_⟩
          · have ey : act.eval (.const (.func (.yield W0.heap.size) #[] #[])) = .func (.yield W0.heap.size) #[] #[] := rfl
            simp [resolve, rangeCall, hfe, Deferred.ofValue, ey]
          · simp only [invoke]; exact hcf
          · refine CallsIn.mono (callsIn_FW ro _ hcalls) fun e W' he => ?_
            obtain ⟨v', ι2, rfl, s2, ev2, vr⟩ := he
            have hi2 : ι2 A.length = some (W0.heap.size, 0) := by
              rcases ev2.le.live A.length _ _ (upd_same _ _ _) with hdd | h
              · rw [hlr] at hdd; cases hdd
              · exact h
            obtain ⟨lr', hW', hrel', _⟩ := s2.loop _ _ _ _ hi2 hlr
            have hnb : lr'.state ≠ .busy := by rw [hrel'.state]; exact hbusy
            have hend := run_endLoop (P := P) hW' hnb
            have hrel3 : LoopRel P q.2 ι2 W' { lr with state := .exhausted } { lr' with state := .exhausted } := { hrel' with state := rfl }
            obtain ⟨s3, ev3⟩ := s2.setLoop hi2 hlr hW' hrel3
            generalize hWf : W'.putObj W0.heap.size (.loop { lr' with state := .exhausted }) = Wf at hend s3 ev3
            obtain ⟨s4, le4⟩ := s3.kill A.length (by rw [List.getElem?_set]; simp [s2.lt hi2])
            have hset : (q.2.set A.length (AObj.loop { lr with state := .exhausted })).set A.length .dead = q.2.set A.length .dead := by rw [List.set_set]
            rw [hset] at s4 le4
            have ev4 : Ev base A ι W (q.2.set A.length .dead) ι2 Wf :=
              ((ev01.trans ev2).trans ev3).trans ⟨le4, .refl _ _, fun _ _ h => h, fun _ l h => ⟨l, h⟩⟩
            have ev04 : Ev base A ι W0 (q.2.set A.length .dead) ι2 Wf :=
              ((ev1.trans ev2).trans ev3).trans ⟨le4, .refl _ _, fun _ _ h => h, fun _ l h => ⟨l, h⟩⟩
            have dr4 := dr0.ev ev04
            have ht4 : LRel (q.2.set A.length .dead) ι2 Wf t act.tmps.toList := ht.mono ev4.le
            refine ⟨lr'.pending, _, hend, ?_⟩
            have hp := hrel'.pend
            split at h2
            · rename_i hpn
              rw [hpn] at hp
              cases hpl : lr'.pending with
              | none => exact ⟨.normal, t, _, ι2, h2, .normal, s4, ht4, dr4, ev4⟩
              | some c => rw [hpl] at hp; exact hp.elim
            · rename_i ee hpn
              rw [hpn] at hp
              cases hpl : lr'.pending with
              | none => rw [hpl] at hp; cases ee <;> exact hp.elim
              | some c =>
                rw [hpl] at hp
                cases ee with
                | normal => cases c <;> exact hp.elim
                | exit i =>
                  cases c with
                  | exit j => have : i = j := hp; subst this; exact wpIn_exit ⟨.exit i, t, _, ι2, h2, .exit i, s4, ht4, dr4, ev4⟩
                  | _ => exact hp.elim
                | ret =>
                  cases c with
                  | ret => exact wpIn_ret ⟨.ret, t, _, ι2, h2, .ret, s4, ht4, dr4, ev4⟩
                  | _ => exact hp.elim
      · cases h2
    · cases hk
  · cases hk

end
end Go.Ax
