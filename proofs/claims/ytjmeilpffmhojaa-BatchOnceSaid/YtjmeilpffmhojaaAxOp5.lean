/- Slicing, appending, copying. -/
import Derived.Test.YtjmeilpffmhojaaAxOp4
import Derived.Laws.Append
import Derived.Laws.AppendOwn
set_option linter.unusedVariables false
set_option linter.unusedSimpArgs false
namespace Go.Ax
open Go Go.RowKit

section
variable {P : Program} {base : Nat} {rec : Rec} {oc : Oper}

theorem bound_inv {A : AMem} {ι : Iota} {W : World} {t : List Value} {act : Act} (ht : LRel A ι W t act.tmps.toList) {d : Nat} {o : Option Operand} {z : Int} (h : boundOf t d o = some z) :
    (o.map act.eval = none ∧ z = d) ∨ ∃ k, o.map act.eval = some (.int k z) := by
  cases o with
  | none => cases h; exact .inl ⟨rfl, rfl⟩
  | some x =>
    have hx := ev_rel ht x
    simp only [boundOf] at h
    split at h
    · rename_i k n e
      cases h
      rw [e] at hx
      exact .inr ⟨k, by simp [int_inv hx]⟩
    · cases h

theorem run_sb (isSlice : Bool) (len cap : Nat) (lo' hi' : Option Value) (lv hv : Int) (hlo : (lo' = none ∧ lv = (0 : Nat)) ∨ ∃ k, lo' = some (.int k lv)) (hhi : (hi' = none ∧ hv = len) ∨ ∃ k, hi' = some (.int k hv))
    (h0 : 0 ≤ lv) (h1 : lv ≤ hv) (h2 : hv ≤ cap) (W : World) : (Instr.sliceBounds isSlice len cap lo' hi' none).run P W = .ok (lv.toNat, hv.toNat, cap) W := by
  have hc : 0 ≤ hv := by omega
  have hm : ((hv.toNat : Nat) : Int) = hv := by omega
  rcases hhi with ⟨rfl, rfl⟩ | ⟨kh, rfl⟩ <;> rcases hlo with ⟨rfl, rfl⟩ | ⟨kl, rfl⟩ <;>
    simp [Instr.sliceBounds, Instr.sliceBound, asIntOf, h0, h1, h2, hc, hm]

theorem slice_ok {T e : TypeId} {x : Operand} {lo hi : Option Operand} {n : Nat} (h : oc.op = .slice T x lo hi none) (hT : P.underlying T = some (.slice e)) (hn : sizeT P e = some n) : OpOk P base rec oc (.slice n x lo hi) := by
  intro tt A ι W act K r hs ht hb hk
  have hx := ev_rel ht x
  simp only [opK] at hk
  split at hk
  · rename_i p ln c e1
    rw [e1] at hx
    obtain ⟨lv, l1, hk⟩ := Option.bind_eq_some_iff.1 hk
    obtain ⟨hv, l2, hk⟩ := Option.bind_eq_some_iff.1 hk
    split at hk
    · rename_i hc
      obtain ⟨c1, c2, c3⟩ := hc
      have b1 := bound_inv ht l1
      have b2 := bound_inv ht l2
      cases p with
      | none =>
        obtain ⟨n0, c0, hq⟩ := nilslice_inv hx
        subst n0; subst c0
        have hlv : lv = 0 := by omega
        have hhv : hv = 0 := by omega
        subst hlv; subst hhv
        refine ⟨_, A, hk, .pure hs (v' := .slice none 0 0) ?_ ?_⟩
        · have := run_sb (P := P) true 0 0 (lo.map act.eval) (hi.map act.eval) 0 0 b1 b2 (by omega) (by omega) (by omega) W
          simp [execOp, h, Instr.sliceAt, run_underlying hT, Instr.slice, hq, this, run_sizeOf hn]
        · have : (if (0 : Nat) = n then n else 0) = 0 := by split <;> omega
          simp only [Option.map_none, this]
          exact .flat _ rfl
      | some p =>
        obtain ⟨q, c', hq, hle, hm⟩ := slice_inv hx
        have hrun := run_sb (P := P) true ln c' (lo.map act.eval) (hi.map act.eval) lv hv b1 b2 c1 c2 (by omega) W
        refine ⟨_, A, hk, .pure hs (v' := .slice (if c' = lv.toNat then some q else some (q.add (lv.toNat * n))) (hv.toNat - lv.toNat) (c' - lv.toNat)) ?_ ?_⟩
        · simp [execOp, h, Instr.sliceAt, run_underlying hT, Instr.slice, hq, hrun, run_sizeOf hn]
        · have hlen : (hv - lv).toNat = hv.toNat - lv.toNat := by omega
          simp only [Option.map_some]
          rw [hlen]
          by_cases hcl : c' = lv.toNat
          · have z1 : hv.toNat - lv.toNat = 0 := by omega
            have z2 : c' - lv.toNat = 0 := by omega
            rw [if_pos hcl, z1, z2]
            exact .sliceEmpty _ q _
          · rw [if_neg hcl]
            rcases hm with ⟨h0, h1⟩ | ⟨hsp, hd | ⟨b, o, hib, rfl, hbd⟩⟩
            · omega
            · exact .sliceDead ⟨p.block, p.off + lv.toNat * n, p.spot⟩ _ _ _ _ hd hsp (by omega)
            · rw [addr_add, Nat.add_assoc]
              refine .slice ⟨p.block, p.off + lv.toNat * n, p.spot⟩ _ _ _ b o hib hsp (by omega) fun hz => ?_
              simp only at hz ⊢
              split at hz
              · rename_i hcn
                subst hcn
                have := hbd hz
                rw [if_pos rfl]
                have e2 : lv.toNat * c + (c' - lv.toNat) * c = c' * c := by rw [← Nat.add_mul]; congr 1; omega
                omega
              · exact absurd rfl hz
    · cases hk
  · cases hk

theorem slice0_ok {T e : TypeId} {x : Operand} {kh km : IntKind} (h : oc.op = .slice T x none (some (.const (.int kh 0))) (some (.const (.int km 0)))) (hT : P.underlying T = some (.slice e)) {n : Nat} (hn : sizeT P e = some n) : OpOk P base rec oc (.slice0 x) := by
  intro tt A ι W act K r hs ht hb hk
  have hx := ev_rel ht x
  simp only [opK] at hk
  have hrun : ∀ (ln c' : Nat), (Instr.sliceBounds true ln c' none (some (.int kh 0)) (some (.int km 0))).run P W = .ok (0, 0, 0) W := fun ln c' => by
    simp [Instr.sliceBounds, Instr.sliceBound, asIntOf]
  split at hk
  · rename_i p ln c e1
    rw [e1] at hx
    obtain ⟨q, c', hq, hle, hm⟩ := slice_inv hx
    refine ⟨_, A, hk, .pure hs (v' := .slice (some q) 0 0) ?_ (.sliceEmpty _ q _)⟩
    have ek : act.eval (.const (.int kh 0)) = .int kh 0 := rfl
    have em : act.eval (.const (.int km 0)) = .int km 0 := rfl
    simp [execOp, h, Instr.sliceAt, run_underlying hT, Instr.slice, hq, ek, em, hrun, run_sizeOf hn]
  · rename_i ln c e1
    rw [e1] at hx
    obtain ⟨_, _, hq⟩ := nilslice_inv hx
    refine ⟨_, A, hk, .pure hs (v' := .slice none 0 0) ?_ (.flat _ rfl)⟩
    have ek : act.eval (.const (.int kh 0)) = .int kh 0 := rfl
    have em : act.eval (.const (.int km 0)) = .int km 0 := rfl
    simp [execOp, h, Instr.sliceAt, run_underlying hT, Instr.slice, hq, ek, em, hrun, run_sizeOf hn]
  · cases hk

theorem sliceArr_core {A : AMem} {ι : Iota} {W : World} {p : Addr} {q : Addr} (hm : A[p.block]? = some .dead ∨ ∃ b o, ι p.block = some (b, o) ∧ q = ⟨b, o + p.off, none⟩) (len n : Nat) (lv hv : Int)
    (c1 : 0 ≤ lv) (c2 : lv ≤ hv) (c3 : hv ≤ len) :
    VRel A ι W (.slice (some ⟨p.block, p.off + lv.toNat * n, none⟩) (hv - lv).toNat 0) (.slice (some (if len = lv.toNat then q else q.add (lv.toNat * n))) (hv.toNat - lv.toNat) (len - lv.toNat)) := by
  have hlen : (hv - lv).toNat = hv.toNat - lv.toNat := by omega
  rw [hlen]
  by_cases hcl : len = lv.toNat
  · have z1 : hv.toNat - lv.toNat = 0 := by omega
    have z2 : len - lv.toNat = 0 := by omega
    rw [if_pos hcl, z1, z2]
    exact .sliceEmpty _ q _
  · rw [if_neg hcl]
    rcases hm with hd | ⟨b, o, hib, rfl⟩
    · exact .sliceDead ⟨p.block, p.off + lv.toNat * n, none⟩ _ _ _ _ hd rfl (by omega)
    · rw [addr_add, Nat.add_assoc]
      exact .slice ⟨p.block, p.off + lv.toNat * n, none⟩ _ _ _ b o hib rfl (by omega) fun hz => absurd rfl hz

theorem sliceArr_ok {T e : TypeId} {x : Operand} {lo hi : Option Operand} {len n : Nat} (h : oc.op = .slice T x lo hi none)
    (hT : P.underlying T = some (.array len e) ∨ ∃ a, P.underlying T = some (.pointer a) ∧ P.underlying a = some (.array len e)) (hn : sizeT P e = some n) : OpOk P base rec oc (.sliceArr len n x lo hi) := by
  intro tt A ι W act K r hs ht hb hk
  have hx := ev_rel ht x
  simp only [opK] at hk
  split at hk
  · rename_i p e1
    rw [e1] at hx
    obtain ⟨lv, l1, hk⟩ := Option.bind_eq_some_iff.1 hk
    obtain ⟨hv, l2, hk⟩ := Option.bind_eq_some_iff.1 hk
    split at hk
    · rename_i hc
      obtain ⟨c1, c2, c3⟩ := hc
      have b1 := bound_inv ht l1
      have b2 := bound_inv ht l2
      obtain ⟨q, hq, hm⟩ := ptr_inv hx
      have hrun := run_sb (P := P) false len len (lo.map act.eval) (hi.map act.eval) lv hv b1 b2 c1 c2 c3 W
      refine ⟨_, A, hk, .pure hs (v' := .slice (some (if len = lv.toNat then q else q.add (lv.toNat * n))) (hv.toNat - lv.toNat) (len - lv.toNat)) ?_ (sliceArr_core hm len n lv hv c1 c2 c3)⟩
      rcases hT with hT | ⟨a, hT, hT2⟩
      · simp [execOp, h, Instr.sliceAt, run_underlying hT, hq, Instr.sureAddr, hrun, run_sizeOf hn]
      · simp [execOp, h, Instr.sliceAt, run_underlying hT, run_underlying hT2, Instr.slice, asAddr, hq, hrun, run_sizeOf hn]
    · cases hk
  · cases hk

/-! #### rows -/

theorem rowOf_ok {A : AMem} {ι : Iota} {W : World} (hs : Sim P base A ι W) {esz : Nat} {v v' : Value} {row : List Value} {m : Nat} (hv : VRel A ι W v v') (hl : lenV v = some m) (h : rowOf A esz v = some row) :
    ∃ (q : Option Addr) (c' : Nat) (row' : List Value), v' = .slice q m c' ∧ row.length = m * esz ∧ LRel A ι W row row' ∧ (Builtin.firstCells esz m v').run P W = .ok row'.toArray W ∧
      (∀ (a : Addr), q = some a → ∀ (j : Nat) (u : Value), row'[j]? = some u → W.cell? (a.add j) = some u) ∧ (q = none → m = 0) := by
  unfold rowOf at h
  split at h
  · rename_i n c
    cases hl
    split at h
    · rename_i h0
      cases h; subst h0
      obtain ⟨_, _, rfl⟩ := nilslice_inv hv
      exact ⟨none, 0, [], rfl, by simp, LRel.nil, rfl, fun a e => (by cases e), fun _ => rfl⟩
    · cases h
  · rename_i p n c
    cases hl
    obtain ⟨q, c', rfl, hle, hm⟩ := slice_inv hv
    split at h
    · rename_i h0
      cases h; subst h0
      refine ⟨some q, c', [], rfl, by simp, LRel.nil, ?_, fun a e j u e2 => by simp at e2, fun e => by cases e⟩
      simp [Builtin.firstCells, loadCells, loadCellsFrom]
    · rename_i h0
      obtain ⟨r1, r2⟩ := rd_inv h
      by_cases hz : row = []
      · subst hz
        refine ⟨some q, c', [], rfl, r1, LRel.nil, ?_, fun a e j u e2 => by simp at e2, fun e => by cases e⟩
        simp at r1
        simp [Builtin.firstCells, ← r1, loadCells, loadCellsFrom]
      · have hpos : 0 < row.length := List.length_pos_iff.2 hz
        have hd := live_of_ld (r2 0 _ (List.getElem?_eq_getElem hpos))
        rcases hm with ⟨h1, _⟩ | ⟨hsp, hdd | ⟨b, o, hib, rfl, _⟩⟩
        · exact absurd h1 h0
        · exact absurd hdd hd
        · obtain ⟨vs', e1, e2⟩ := hs.lds hib row r2
          rw [r1] at e1
          refine ⟨_, c', vs', rfl, r1, e2, by simpa [Builtin.firstCells] using e1, fun a e j u e3 => ?_, fun e => by cases e⟩
          cases e
          have hj : j < row.length := by rw [e2.1]; exact (List.getElem?_eq_some_iff.1 e3).1
          obtain ⟨v', f1, f2⟩ := hs.ld hib (r2 j _ (List.getElem?_eq_getElem hj))
          rw [addr_add]
          -- the run read the same cells
          have hrun2 := run_loadCells (P := P) W ⟨b, o + p.off, none⟩ (m * esz) (fun j => (W.cell? ⟨b, o + p.off + j, none⟩).getD undef) (fun j hj => by
            obtain ⟨v'', g1, _⟩ := hs.ld hib (r2 j _ (List.getElem?_eq_getElem (by rw [r1]; exact hj)))
            rw [addr_add, Nat.add_assoc, g1]; rfl)
          rw [e1] at hrun2
          have : vs' = (List.range (m * esz)).map fun j => (W.cell? ⟨b, o + p.off + j, none⟩).getD undef := by
            have := congrArg (fun r => match r with | Result.ok a _ => a.toList | _ => []) hrun2
            simpa using this
          rw [this] at e3
          rw [List.getElem?_map, List.getElem?_range (by rw [← r1]; exact hj)] at e3
          simp only [Option.map_some] at e3
          rw [← Nat.add_assoc] at f1
          rw [f1] at e3 ⊢
          simpa using e3
  · cases h


theorem rd_leaf {A : AMem} {ι : Iota} {W : World} (hs : Sim P base A ι W) {a b o off n : Nat} {row : List Value} (hi : ι a = some (b, o)) (h : A.rd a off n = some row) : row.all leafV = true := by
  unfold AMem.rd at h
  split at h
  · rename_i cs m hA
    split at h
    · cases h
      have := hs.leaf a b o cs m hi hA
      rw [List.all_eq_true] at this ⊢
      exact fun v hv => this v (List.mem_of_mem_drop (List.mem_of_mem_take hv))
    · cases h
  · cases h

theorem rowOf_leaf {A : AMem} {ι : Iota} {W : World} (hs : Sim P base A ι W) {esz : Nat} {v v' : Value} {row : List Value} (hv : VRel A ι W v v') (h : rowOf A esz v = some row) : row.all leafV = true := by
  unfold rowOf at h
  split at h
  · split at h
    · cases h; rfl
    · cases h
  · rename_i p n c
    split at h
    · cases h; rfl
    · rename_i hn0
      obtain ⟨q, c', _, _, hm⟩ := slice_inv hv
      by_cases hz : row = []
      · subst hz; rfl
      · obtain ⟨r1, r2⟩ := rd_inv h
        have hd := live_of_ld (r2 0 _ (List.getElem?_eq_getElem (List.length_pos_iff.2 hz)))
        rcases hm with ⟨h1, _⟩ | ⟨_, hdd | ⟨b, o, hib, _, _⟩⟩
        · exact absurd h1 hn0
        · exact absurd hdd hd
        · exact rd_leaf hs hib h
  · cases h

end
end Go.Ax
