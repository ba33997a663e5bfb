/- Loads, stores, addresses, slices. -/
import Derived.Test.YtjmeilpffmhojaaAxOp3
set_option linter.unusedVariables false
set_option linter.unusedSimpArgs false
namespace Go.Ax
open Go Go.RowKit

section
variable {P : Program} {base : Nat} {rec : Rec} {oc : Oper}

theorem leaves_und {d : Nat} {t : TypeId} {l : List Leaf} (h : leaves P d t = some l) : ∃ D, P.underlying t = some D := by
  cases d with
  | zero => simp [leaves] at h
  | succ d =>
    cases hu : P.underlying t with
    | none => simp [leaves, hu] at h
    | some D => exact ⟨D, rfl⟩

theorem ty1_inv {t : TypeId} {x : Bool × List Leaf} (h : ty1 P t = some x) : x.1 = isAggT P t ∧ sizeT P t = some x.2.length ∧ ∃ D, P.underlying t = some D := by
  unfold ty1 at h
  obtain ⟨l, h1, h2⟩ := Option.bind_eq_some_iff.1 h
  split at h2
  · rename_i hs
    cases h2
    exact ⟨rfl, hs, leaves_und h1⟩
  · cases h2

theorem run_isAgg {t : TypeId} {D : TypeDesc} (h : P.underlying t = some D) (W : World) : (isAgg t).run P W = .ok (isAggT P t) W := by
  simp only [isAgg, Sem.run_bind, run_underlying h, Result.andThen_ok]
  unfold isAggT
  rw [h]
  cases D <;> rfl

theorem live_of_ld {A : AMem} {a i : Nat} {v : Value} (h : A.ld a i = some v) : A[a]? ≠ some .dead := by
  intro e; simp [AMem.ld, e] at h

theorem run_loadVar_agg {t : TypeId} {D : TypeDesc} {n : Nat} {q : Addr} {vs' : List Value} {W : World} (hD : P.underlying t = some D) (hagg : isAggT P t = true) (hn : sizeT P t = some n)
    (hl : (loadCells q n).run P W = .ok vs'.toArray W) : (loadVar t q).run P W = .ok (.agg vs'.toArray) W := by
  simp [loadVar, run_isAgg hD, hagg, run_sizeOf hn, hl]

theorem load_core {t : TypeId} {x : Bool × List Leaf} (hx : ty1 P t = some x) {A : AMem} {ι : Iota} {W : World} (hs : Sim P base A ι W) {p : Addr} {v' : Value}
    (hp : VRel A ι W (.pointer (some p)) v') {K : Value → Res} {r : Value × AMem}
    (hk : (if x.1 then ldLeaves (fun j => A.ld p.block (p.off + j)) x.2 0 fun vs => K (.agg vs.toArray) else match x.2 with | [lf] => ldLeaf lf (A.ld p.block p.off) K | _ => none) = some r) :
    ∃ u u' q, v' = .pointer (some q) ∧ K u = some r ∧ (loadVar t q).run P W = .ok u' W ∧ VRel A ι W u u' := by
  obtain ⟨h1, h2, D, h3⟩ := ty1_inv hx
  obtain ⟨q, rfl, hq⟩ := ptr_inv hp
  cases hb : x.1 with
  | true =>
    rw [hb] at hk h1
    simp only [if_true] at hk
    obtain ⟨us, ws, k1, k2, k3, k4, k5, k6⟩ := ldLeaves_ok _ _ _ hk
    by_cases h0 : x.2.length = 0
    · have hus : us = [] := List.length_eq_zero_iff.1 (k1.trans h0)
      subst hus
      refine ⟨_, .agg #[], q, rfl, k3, ?_, agg_of_LRel LRel.nil⟩
      exact run_loadVar_agg (vs' := []) h3 h1.symm h2 (by rw [h0]; rfl)
    · have hld : ∀ j w, ws[j]? = some w → A.ld p.block (p.off + j) = some w := fun j w e => by have := k5 j w e; simpa using this
      have hw0 : ws[0]? = some ws[0] := List.getElem?_eq_getElem (by omega)
      rcases hq with hd | ⟨b, o, hi, rfl⟩
      · exact absurd hd (live_of_ld (hld 0 _ hw0))
      · obtain ⟨vs', e1, e2⟩ := hs.lds hi ws hld
        rw [k2] at e1
        exact ⟨_, _, _, rfl, k3, run_loadVar_agg h3 h1.symm h2 e1, agg_of_LRel (LRel.sub (k1.trans k2.symm) k6 (by simpa using e2))⟩
  | false =>
    rw [hb] at hk h1
    simp only [Bool.false_eq_true, if_false] at hk
    split at hk
    · obtain ⟨u, w, e1, e2, e3, e4⟩ := ldLeaf_ok hk
      rcases hq with hd | ⟨b, o, hi, rfl⟩
      · exact absurd hd (live_of_ld e1)
      · obtain ⟨w', f1, f2⟩ := hs.ld hi e1
        refine ⟨u, w', _, rfl, e2, ?_, e3 _ _ _ _ f2⟩
        simp [loadVar, run_isAgg h3, ← h1, f1]
    · cases hk

theorem load_ok {t : TypeId} {a : Operand} {x : Bool × List Leaf} (h : oc.op = .load t a) (hx : ty1 P t = some x) : OpOk P base rec oc (.load x.1 x.2 a) := by
  intro tt A ι W act K r hs ht hb hk
  have ha := ev_rel ht a
  simp only [opK] at hk
  split at hk
  · rename_i p e
    rw [e] at ha
    obtain ⟨u, u', q, q1, q2, q3, q4⟩ := load_core hx hs ha (K := fun v => K v A) hk
    refine ⟨u, A, q2, .pure hs (v' := u') ?_ q4⟩
    simp [execOp, h, Instr.loadAt, q1, Instr.sureAddr, q3]
  · cases hk

theorem store_ok {t : TypeId} {a x : Operand} {n : Nat} (h : oc.op = .store t a x) (hn : sizeT P t = some n) : OpOk P base rec oc (.store n a x) := by
  intro tt A ι W act K r hs ht hb hk
  have ha := ev_rel ht a
  have hx := ev_rel ht x
  simp only [opK] at hk
  split at hk
  · rename_i p e
    rw [e] at ha
    split at hk
    · rename_i hc
      obtain ⟨A', h1, h2⟩ := Option.bind_eq_some_iff.1 hk
      obtain ⟨q, hq, hm⟩ := ptr_inv ha
      have hr := cellsL_rel hx hc.2
      obtain ⟨cs, m, hA, _⟩ := wr_inv h1
      rcases hm with hd | ⟨b, o, hi, rfl⟩
      · rw [hA] at hd; cases hd
      · obtain ⟨W', k1, k2, k3⟩ := hs.write hi h1 hr hc.2
        refine ⟨undef, A', h2, _, undef, W', ι, ?_, .inr ⟨rfl, rfl⟩, k2, k3, VRel.undef'⟩
        have hsz : ¬ ((act.eval x).cells.size ≠ n) := by
          have := hr.1; rw [hc.1, ← cells_toList] at this; simpa using this.symm
        simp only [execOp, h, Instr.storeAt, hq, Instr.sureAddr]
        simp only [Sem.run_bind, pure_bind, storeVar, run_sizeOf hn, Result.andThen_ok, if_neg hsz, cells_toList, k1]
        rfl
    · cases hk
  · cases hk

theorem fieldAddr_ok {s : TypeId} {x : Operand} {f : Nat} {fs : Array Field} {fd : Field} {n : Nat} (h : oc.op = .fieldAddr s x f) (hs' : P.underlying s = some (.struct fs)) (hf : fs[f]? = some fd)
    (hn : sizeT P fd.type = some n) (hpos : 0 < n) : OpOk P base rec oc (.fieldAddr fd.offset x) := by
  intro tt A ι W act K r hs ht hb hk
  have hx := ev_rel ht x
  simp only [opK] at hk
  split at hk
  · rename_i p e
    rw [e] at hx
    obtain ⟨q, hq, hm⟩ := ptr_inv hx
    refine ⟨_, A, hk, .pure hs (v' := .pointer (some (q.add fd.offset))) ?_ ?_⟩
    · have h0 : ¬ n = 0 := by omega
      simp [execOp, h, Instr.fieldAt, run_underlying hs', hf, hq, Instr.sureAddr, fieldPlace, run_sizeOf hn, h0]
    · rcases hm with hd | ⟨b, o, hi, rfl⟩
      · exact .ptrDead ⟨p.block, p.off + fd.offset, none⟩ _ hd
      · rw [addr_add, Nat.add_assoc]
        exact .ptr ⟨p.block, p.off + fd.offset, none⟩ b o hi
  · cases hk

theorem run_part {t : TypeId} {D : TypeDesc} {n : Nat} (hD : P.underlying t = some D) (hn : sizeT P t = some n) (cs : Array Value) (off : Nat) (W : World) :
    (part t cs off).run P W = if isAggT P t then .ok (.agg (cs.extract off (off + n))) W else match cs[off]? with | some v => .ok v W | none => .halt (.stuck "part: no such cell") W := by
  simp only [part, Sem.run_bind, run_isAgg hD, Result.andThen_ok]
  cases isAggT P t
  · simp only [Bool.false_eq_true, if_false]
    cases cs[off]? <;> rfl
  · simp [run_sizeOf hn]

theorem extract_toList (cs : Array Value) (off n : Nat) : (cs.extract off (off + n)).toList = (cs.toList.drop off).take n := by
  simp [List.extract_eq_take_drop]

theorem field_ok {s : TypeId} {x : Operand} {f : Nat} {fs : Array Field} {fd : Field} {n : Nat} {D : TypeDesc} (h : oc.op = .field s x f) (hs' : P.underlying s = some (.struct fs)) (hf : fs[f]? = some fd)
    (hn : sizeT P fd.type = some n) (hD : P.underlying fd.type = some D) : OpOk P base rec oc (.field (isAggT P fd.type) fd.offset n x) := by
  intro tt A ι W act K r hs ht hb hk
  have hx := ev_rel ht x
  simp only [opK] at hk
  split at hk
  · rename_i cs e
    rw [e] at hx
    obtain ⟨x', hq, hr⟩ := agg_inv hx
    have hrun := run_part (P := P) hD hn x' fd.offset W
    have hex : (execOp act.eval oc).run P W = ((part fd.type x' fd.offset).run P W).andThen fun a w => .ok (.value a) w := by
      simp [execOp, h, Instr.field, run_underlying hs', hf, hq, asAgg]
    split at hk
    · rename_i hagg
      split at hk
      · rename_i hle
        refine ⟨_, A, hk, .pure hs (v' := .agg (x'.extract fd.offset (fd.offset + n))) ?_ ?_⟩
        · rw [hex, hrun, if_pos hagg]; rfl
        · refine agg_of_LRel ?_
          rw [extract_toList]
          exact (hr.drop _).take _
      · cases hk
    · rename_i hagg
      obtain ⟨v, h1, h2⟩ := Option.bind_eq_some_iff.1 hk
      obtain ⟨v', e1, e2⟩ := hr.get h1
      refine ⟨v, A, h2, .pure hs (v' := v') ?_ e2⟩
      rw [hex, hrun, if_neg hagg]
      have : x'[fd.offset]? = some v' := by simpa using e1
      rw [this]; rfl
  · cases hk

theorem indexAddr_ok {T e : TypeId} {x i : Operand} {n : Nat} (h : oc.op = .indexAddr T x i) (hT : P.underlying T = some (.slice e)) (hn : sizeT P e = some n) : OpOk P base rec oc (.indexAddr n x i) := by
  intro tt A ι W act K r hs ht hb hk
  have hx := ev_rel ht x
  have hi := ev_rel ht i
  simp only [opK] at hk
  split at hk
  · rename_i p ln c k iv e1 e2
    rw [e1] at hx; rw [e2] at hi
    have hi' := int_inv hi
    obtain ⟨q, c', hq, hle, hm⟩ := slice_inv hx
    split at hk
    · rename_i hc
      refine ⟨_, A, hk, .pure hs (v' := .pointer (some (q.add (iv.toNat * n)))) ?_ ?_⟩
      · simp [execOp, h, Instr.indexAt, hi', hq, asIntOf, run_underlying hT, run_sizeOf hn, hc.1, hc.2]
      · rcases hm with ⟨h0, _⟩ | ⟨hsp, hd | ⟨b, o, hib, rfl, _⟩⟩
        · omega
        · exact .ptrDead ⟨p.block, p.off + iv.toNat * n, none⟩ _ hd
        · rw [addr_add, Nat.add_assoc]
          exact .ptr ⟨p.block, p.off + iv.toNat * n, none⟩ b o hib
    · cases hk
  · cases hk
  · cases hk

theorem indexArr_ok {T e : TypeId} {x i : Operand} {len n : Nat} (h : oc.op = .indexAddr T x i) (hT : P.underlying T = some (.array len e)) (hn : sizeT P e = some n) : OpOk P base rec oc (.indexArr len n x i) := by
  intro tt A ι W act K r hs ht hb hk
  have hx := ev_rel ht x
  have hi := ev_rel ht i
  simp only [opK] at hk
  split at hk
  · rename_i p k iv e1 e2
    rw [e1] at hx; rw [e2] at hi
    have hi' := int_inv hi
    obtain ⟨q, hq, hm⟩ := ptr_inv hx
    split at hk
    · rename_i hc
      refine ⟨_, A, hk, .pure hs (v' := .pointer (some (q.add (iv.toNat * n)))) ?_ ?_⟩
      · simp [execOp, h, Instr.indexAt, hi', hq, asIntOf, run_underlying hT, run_sizeOf hn, hc.1, hc.2, Instr.sureAddr]
      · rcases hm with hd | ⟨b, o, hib, rfl⟩
        · exact .ptrDead ⟨p.block, p.off + iv.toNat * n, none⟩ _ hd
        · rw [addr_add, Nat.add_assoc]
          exact .ptr ⟨p.block, p.off + iv.toNat * n, none⟩ b o hib
    · cases hk
  · cases hk

theorem index_ok {T e : TypeId} {x i : Operand} {len n : Nat} {D : TypeDesc} (h : oc.op = .index T x i) (hT : P.underlying T = some (.array len e)) (hn : sizeT P e = some n) (hD : P.underlying e = some D) :
    OpOk P base rec oc (.index (isAggT P e) len n x i) := by
  intro tt A ι W act K r hs ht hb hk
  have hx := ev_rel ht x
  have hi := ev_rel ht i
  simp only [opK, idxK_eq] at hk
  split at hk
  · rename_i cs k iv e1 e2
    rw [e1] at hx; rw [e2] at hi
    have hi' := int_inv hi
    obtain ⟨x', hq, hr⟩ := agg_inv hx
    split at hk
    · rename_i hc
      have hrun := run_part (P := P) hD hn x' (iv.toNat * n) W
      have hex : (execOp act.eval oc).run P W = ((part e x' (iv.toNat * n)).run P W).andThen fun a w => .ok (.value a) w := by
        simp [execOp, h, Instr.index, run_underlying hT, hi', hq, asIntOf, hc.1, hc.2, run_sizeOf hn]
      split at hk
      · rename_i hagg
        split at hk
        · refine ⟨_, A, hk, .pure hs (v' := .agg (x'.extract (iv.toNat * n) (iv.toNat * n + n))) ?_ ?_⟩
          · rw [hex, hrun, if_pos hagg]; rfl
          · refine agg_of_LRel ?_
            rw [extract_toList]
            exact (hr.drop _).take _
        · cases hk
      · rename_i hagg
        obtain ⟨v, h1, h2⟩ := Option.bind_eq_some_iff.1 hk
        obtain ⟨v', f1, f2⟩ := hr.get h1
        refine ⟨v, A, h2, .pure hs (v' := v') ?_ f2⟩
        rw [hex, hrun, if_neg hagg]
        have : x'[iv.toNat * n]? = some v' := by simpa using f1
        rw [this]; rfl
    · cases hk
  · cases hk

theorem indexStr_ok {T : TypeId} {x i : Operand} (h : oc.op = .index T x i) (hT : P.underlying T = some .string) : OpOk P base rec oc (.indexStr x i) := by
  intro tt A ι W act K r hs ht hb hk
  have hx := ev_rel ht x
  have hi := ev_rel ht i
  simp only [opK] at hk
  split at hk
  · rename_i s k iv e1 e2
    rw [e1] at hx; rw [e2] at hi
    have hi' := int_inv hi
    have hx' := string_inv hx
    split at hk
    · rename_i hc
      obtain ⟨b, h1, h2⟩ := Option.bind_eq_some_iff.1 hk
      refine ⟨_, A, h2, .pure hs (v' := .int .u8 b.toNat) ?_ (.flat _ rfl)⟩
      have hb' : s[iv.toNat]? = some b := by
        obtain ⟨hlt, hv⟩ := List.getElem?_eq_some_iff.1 h1
        have hlt' : iv.toNat < s.size := by simpa using hlt
        rw [getElem?_pos s iv.toNat hlt']
        congr 1
      simp [execOp, h, Instr.index, run_underlying hT, hi', hx', asIntOf, hc, hb']
    · cases hk
  · cases hk

end
end Go.Ax
