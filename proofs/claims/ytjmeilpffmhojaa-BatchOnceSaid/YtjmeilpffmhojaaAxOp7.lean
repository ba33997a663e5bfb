/- append and copy as operations; equality of structs and arrays. -/
import Derived.Test.YtjmeilpffmhojaaAxOp6
set_option linter.unusedVariables false
set_option linter.unusedSimpArgs false
namespace Go.Ax
open Go Go.RowKit

section
variable {P : Program} {base : Nat} {rec : Rec} {oc : Oper}

theorem run_append_none {sT xT ty e e2 : TypeId} {i : TypeInfo} (hs : P.underlying sT = some (.slice e)) (hx : P.underlying xT = some (.slice e2)) (hi : P.info? e = some i)
    (q r : Option Addr) (n c cm : Nat) (W : World) (hnew : (Builtin.firstCells i.size 0 (.slice r 0 cm)).run P W = .ok #[] W) (hg : n ≤ c) :
    (Builtin.append_ #[sT, xT] ty #[.slice q n c, .slice r 0 cm]).run P W = .ok (.slice q n c) W := by
  cases q <;> simp [Builtin.append_, run_underlying hs, run_underlying hx, sizeOf, typeInfo, hi, Builtin.lenOf, hg, hnew, storeCells]

theorem append_ok {T xT e e2 : TypeId} {i : TypeInfo} {c0 : Call} (h : oc.op = .call c0) (hc : c0.callee = .builtin .append) {x y : Operand} (hargs : c0.args.toList = [x, y]) (htys : c0.argTypes.toList = [T, xT])
    (hT : P.underlying T = some (.slice e)) (hxT : P.underlying xT = some (.slice e2)) (hi : P.info? e = some i) (hpos : 0 < i.size) (hz : (zeroL P e).isSome = true) :
    OpOk P base rec oc (.append i.size i.bytes x y) := by
  intro tt A ι W act K r hs ht hb hk
  have hx := ev_rel ht x
  have hy := ev_rel ht y
  obtain ⟨zl, hzl⟩ := Option.isSome_iff_exists.1 hz
  obtain ⟨i', z, z1, z2, z3, z4, z5⟩ := zeroL_inv hzl
  rw [hi] at z1; cases z1
  have hzs : z.cells.size = i.size := by rw [← z4, ← z3, ← cells_toList]; simp
  have ht0 : c0.argTypes = #[T, xT] := by rw [← Array.toArray_toList (xs := c0.argTypes), htys]
  simp only [opK] at hk
  split at hk
  · rename_i p n c e1
    rw [e1] at hx
    obtain ⟨m, l1, hk1⟩ := Option.bind_eq_some_iff.1 hk
    clear hk
    obtain ⟨new, l2, hk⟩ := Option.bind_eq_some_iff.1 hk1
    clear hk1
    unfold appendK at hk
    have hnlf := rowOf_leaf hs hy l2
    obtain ⟨r1, cm, new', hyv, hnl, hnr, rnew, _, _⟩ := rowOf_ok hs hy l1 l2
    split at hk
    · rename_i hm0
      subst hm0
      have hn0 : new = [] := by simpa using hnl
      subst hn0
      have hn0' := hnr.inv_nil
      subst hn0'
      obtain ⟨q, c', hxv⟩ := slice_any hx
      have hle : n ≤ c' := by
        cases p with
        | none => obtain ⟨a, b, h3⟩ := nilslice_inv hx; rw [hxv] at h3; cases h3; omega
        | some p => obtain ⟨q', c'', h3, h4, _⟩ := slice_inv hx; rw [hxv] at h3; cases h3; exact h4
      refine ⟨_, A, hk, .pure hs (v' := .slice q n c') ?_ (hxv ▸ hx)⟩
      rw [exec_call h]
      rw [hyv] at rnew
      have hrun := run_append_none (P := P) (ty := oc.type) hT hxT hi q r1 n c' cm W rnew hle
      simp only [resolve, hc, args_of hargs, Sem.run_bind, Sem.run_pure, Result.andThen_ok, pure_bind, invoke, builtin, ht0]
      simp [hxv, hyv, hrun]
    · rename_i hm0
      split at hk
      · rename_i hbd0
        have hbd := fits_of hm0 hbd0
        obtain ⟨sd, evd⟩ := hs.of_heap (W' := W.drew) rfl rfl rfl rfl
        obtain ⟨r2, cm2, newd, hyv2, _, hnrd0, rnewd, _, _⟩ := rowOf_ok sd (hy.mono evd.le) l1 l2
        rw [hyv] at hyv2; cases hyv2
        have back : Le A ι W.drew A ι W := ⟨fun _ h => h, fun _ _ _ h => .inr h, fun b => by unfold szW; exact Nat.le_refl _, .refl _, Nat.le_refl _, fun _ _ h => h⟩
        have hnrd := hnrd0.mono back
        rw [hyv] at rnewd
        split at hk
        · -- nil
          split at hk
          · rename_i hn0
            subst hn0
            obtain ⟨_, hc0, hxv⟩ := nilslice_inv hx
            refine ⟨_, _, hk, ?_⟩
            have := grow_done (base := base) h hc hargs htys hT hxT hi z2 hzs (A1 := A) hb hs (.refl _ _ _) rfl none r1 0 0 m cm hxv hyv [] new [] newd hnlf LRel.nil hnrd (by simp) hnl (by rfl) rnewd (by omega) (by simpa using hbd)
            simpa using this
          · cases hk
        · rename_i p
          split at hk
          · -- a row of no room
            rename_i s0 hsp
            split at hk
            · rename_i hn0
              subst hn0
              obtain ⟨q, c', hxv, hle, hm⟩ := slice_inv hx
              have hc0 : c' = 0 := by
                rcases hm with ⟨_, h2⟩ | ⟨h2, _⟩
                · exact h2
                · rw [hsp] at h2; cases h2
              subst hc0
              refine ⟨_, _, hk, ?_⟩
              have := grow_done (base := base) h hc hargs htys hT hxT hi z2 hzs (A1 := A) hb hs (.refl _ _ _) rfl (some q) r1 0 0 m cm hxv hyv [] new [] newd hnlf LRel.nil hnrd (by simp) hnl
                (by simp [Builtin.firstCells, loadCells, loadCellsFrom]) rnewd (by omega) (by simpa using hbd)
              simpa using this
            · cases hk
          · rename_i hsp
            split at hk
            · rename_i cs mt hA
              split at hk
              · rename_i hcond
                obtain ⟨hro, hce, hoff⟩ := hcond
                refine ⟨_, _, hk, ?_⟩
                obtain ⟨q, c', hxv, hle, hm⟩ := slice_inv hx
                obtain ⟨s1, le1⟩ := hs.kill p.block (by rw [hA]; simp)
                by_cases hg : n + m ≤ c'
                · rcases hm with ⟨_, h2⟩ | ⟨_, hd | ⟨b, o, hib, rfl, hbnd⟩⟩
                  · omega
                  · rw [hA] at hd; cases hd
                  · exact room_done h hc hargs htys hT hxT hi hs p b o hib cs mt hA hro r1 n c' m cm hxv hyv new new' hnlf hnr hnl hoff (by
                      have := hbnd (by omega)
                      rw [hce] at this; exact this) (hyv ▸ rnew) hg
                · -- the row moves
                  have hold : ∃ old' : List Value, LRel (A.set p.block .dead) ι W ((cs.drop p.off).take (n * i.size)) old' ∧ (Builtin.firstCells i.size n (.slice (some q) n c')).run P W.drew = .ok old'.toArray W.drew := by
                    by_cases hn0 : n = 0
                    · subst hn0
                      exact ⟨[], by simp; exact LRel.nil, by simp [Builtin.firstCells, loadCells, loadCellsFrom]⟩
                    · have hrow : rowOf A i.size (.slice (some p) n c) = some ((cs.drop p.off).take (n * i.size)) := by
                        simp only [rowOf, if_neg hn0, AMem.rd, hA, if_pos hoff]
                      obtain ⟨q2, c2, old', ho1, ho2, ho3, ho4, _, _⟩ := rowOf_ok sd (hx.mono evd.le) (by rfl) hrow
                      rw [hxv] at ho1; cases ho1
                      exact ⟨old', (ho3.mono back).mono le1, hxv ▸ ho4⟩
                  obtain ⟨old', ho1, ho2⟩ := hold
                  exact grow_done (base := base) h hc hargs htys hT hxT hi z2 hzs (A1 := A.set p.block .dead) hb s1 le1 (by simp) (some q) r1 n c' m cm hxv hyv _ new old' newd (by
                    by_cases hn0 : n * i.size = 0
                    · rw [hn0]; simpa using hnlf
                    · rw [List.all_append, Bool.and_eq_true]
                      refine ⟨?_, hnlf⟩
                      rcases hm with ⟨h2, _⟩ | ⟨_, hd | ⟨b, o, hib, _, _⟩⟩
                      · exact absurd (by rw [h2, Nat.zero_mul]) hn0
                      · rw [hA] at hd; cases hd
                      · have := hs.leaf _ _ _ _ _ hib hA
                        rw [List.all_eq_true] at this ⊢
                        exact fun v hv => this v (List.mem_of_mem_drop (List.mem_of_mem_take hv))) ho1 (hnrd.mono le1)
                    (by simp; omega) hnl ho2 rnewd (by omega) hbd
              · cases hk
            · cases hk
      · cases hk
  · cases hk

end
end Go.Ax
