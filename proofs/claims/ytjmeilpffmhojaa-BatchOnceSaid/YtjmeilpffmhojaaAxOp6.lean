/- append, copy. -/
import Derived.Test.YtjmeilpffmhojaaAxOp5
set_option linter.unusedVariables false
set_option linter.unusedSimpArgs false
namespace Go.Ax
open Go Go.RowKit

section
variable {P : Program} {base : Nat} {rec : Rec} {oc : Oper}

theorem run_grow {sT xT ty e e2 : TypeId} {i : TypeInfo} {z : Value} (hs : P.underlying sT = some (.slice e)) (hx : P.underlying xT = some (.slice e2)) (hi : P.info? e = some i) (hz : i.zero = some z)
    (q r : Option Addr) (n c m cm : Nat) (W : World) (old new : List Value) (hold : (Builtin.firstCells i.size n (.slice q n c)).run P W.drew = .ok old.toArray W.drew)
    (hnew : (Builtin.firstCells i.size m (.slice r m cm)).run P W.drew = .ok new.toArray W.drew) (hg : c < n + m) (h63 : ((n + m : Nat) : Int) ≤ 9223372036854775807)
    (hfit : Builtin.nextslicecap (n + m) c * i.bytes ≤ 281474976710656) :
    (Builtin.append_ #[sT, xT] ty #[.slice q n c, .slice r m cm]).run P W =
      .ok (.slice (some ⟨W.heap.size, 0, none⟩) (n + m) (grownCap W (n + m) c e))
        (W.drew.alloc (.cells (old.toArray ++ new.toArray ++ Builtin.zeroCells z.cells (grownCap W (n + m) c e - (n + m))) e)) := by
  have hn : ¬ (n + m ≤ c) := by omega
  have h63' : ¬ (9223372036854775807 < ((n : Int) + (m : Int))) := by omega
  have h48' : ¬ (281474976710656 < Builtin.nextslicecap (n + m) c * i.bytes) := by omega
  simp [Builtin.append_, run_underlying hs, run_underlying hx, sizeOf, typeInfo, zeroValue, hi, hz, Builtin.lenOf, hn, h63', h48', Question.forced, hold, hnew, newRow, grownCap]
  congr 2
  apply Array.ext'
  simp [List.append_assoc]

theorem run_room {sT xT ty e e2 : TypeId} {i : TypeInfo} (hs : P.underlying sT = some (.slice e)) (hx : P.underlying xT = some (.slice e2)) (hi : P.info? e = some i)
    (q : Addr) (r : Option Addr) (n c m cm : Nat) (W W' : World) (new : List Value)
    (hnew : (Builtin.firstCells i.size m (.slice r m cm)).run P W = .ok new.toArray W) (hg : n + m ≤ c) (hst : (storeCells (q.add (n * i.size)) new).run P W = .ok () W') :
    (Builtin.append_ #[sT, xT] ty #[.slice (some q) n c, .slice r m cm]).run P W = .ok (.slice (some q) (n + m) c) W' := by
  simp [Builtin.append_, run_underlying hs, run_underlying hx, sizeOf, typeInfo, hi, Builtin.lenOf, hg, hnew, hst]

theorem le_grownCap (W : World) (need old : Nat) (e : TypeId) : need ≤ grownCap W need old e := by
  unfold grownCap Question.cut; simp

theorem LRel.app_left {A : AMem} {ι : Iota} {W : World} {l l' : List Value} (h : LRel A ι W l l') (r : List Value) {j : Nat} {v : Value} (hj : l[j]? = some v) : ∃ v', (l' ++ r)[j]? = some v' ∧ VRel A ι W v v' := by
  obtain ⟨v', e1, e2⟩ := h.get hj
  exact ⟨v', by rw [List.getElem?_append_left (List.getElem?_eq_some_iff.1 e1).1]; exact e1, e2⟩

/-- The row moves to a new block. -/
theorem grow_done {T xT e e2 : TypeId} {i : TypeInfo} {z : Value} {c0 : Call} (h : oc.op = .call c0) (hc : c0.callee = .builtin .append) {x y : Operand} (hargs : c0.args.toList = [x, y]) (htys : c0.argTypes.toList = [T, xT])
    (hT : P.underlying T = some (.slice e)) (hxT : P.underlying xT = some (.slice e2)) (hi : P.info? e = some i) (hz : i.zero = some z) (hzs : z.cells.size = i.size)
    {A A1 : AMem} {ι : Iota} {W : World} {act : Act} (hb : base ≤ W.heap.size) (hs1 : Sim P base A1 ι W) (hle : Le A ι W A1 ι W) (hlen : A1.length = A.length)
    (q r : Option Addr) (n c m cm : Nat) (hx : act.eval x = .slice q n c) (hy : act.eval y = .slice r m cm) (old new : List Value) (old' new' : List Value)
    (hlf : (old ++ new).all leafV = true) (hold : LRel A1 ι W old old') (hnew : LRel A1 ι W new new') (ho : old.length = n * i.size) (hn : new.length = m * i.size)
    (rold : (Builtin.firstCells i.size n (.slice q n c)).run P W.drew = .ok old'.toArray W.drew) (rnew : (Builtin.firstCells i.size m (.slice r m cm)).run P W.drew = .ok new'.toArray W.drew)
    (hg : c < n + m) (hbd : (2 * (n + m) + 1024) * (i.bytes + 1) ≤ 281474976710656) :
    Done P base oc act A ι W (.slice (some ⟨A.length, 0, none⟩) (n + m) i.size) (A1 ++ [.cells (old ++ new) ⟨false, 0⟩]) := by
  have h1 : 2 * (n + m) * i.bytes ≤ 281474976710656 := by
    have : 2 * (n + m) * i.bytes ≤ (2 * (n + m) + 1024) * (i.bytes + 1) := Nat.mul_le_mul (Nat.le_add_right _ _) (Nat.le_add_right _ _)
    exact Nat.le_trans this hbd
  have h2 : (2 * (n + m) + 1024) ≤ 281474976710656 := by
    have : (2 * (n + m) + 1024) * 1 ≤ (2 * (n + m) + 1024) * (i.bytes + 1) := Nat.mul_le_mul (Nat.le_refl _) (Nat.le_add_left _ _)
    rw [Nat.mul_one] at this
    exact Nat.le_trans this hbd
  have hfit : Builtin.nextslicecap (n + m) c * i.bytes ≤ 281474976710656 := Nat.le_trans (Nat.mul_le_mul_right _ (nextslicecap_le hg)) h1
  have hrun := run_grow (P := P) (ty := oc.type) hT hxT hi hz q r n c m cm W old' new' rold rnew hg (by omega) hfit
  obtain ⟨s2, ev2⟩ := hs1.of_heap (W' := W.drew) rfl rfl rfl rfl
  have hx0 : (A1 ++ [AObj.cells (old ++ new) ⟨false, 0⟩])[A.length]? = some (.cells (old ++ new) ⟨false, 0⟩) := by rw [← hlen]; simp
  generalize hcap : grownCap W (n + m) c e = cap at hrun
  have hcap' : n + m ≤ cap := by rw [← hcap]; exact le_grownCap _ _ _ _
  generalize hcs : (old'.toArray ++ new'.toArray ++ Builtin.zeroCells z.cells (cap - (n + m))) = cs' at hrun
  have hcsl : cs'.toList = (old' ++ new') ++ (Builtin.zeroCells z.cells (cap - (n + m))).toList := by rw [← hcs]; simp
  have hcss : cs'.size = cap * i.size := by
    rw [← hcs]
    simp only [Array.size_append, List.size_toArray, size_zeroCells, hzs]
    rw [← hold.1, ← hnew.1, ho, hn, ← Nat.add_mul, ← Nat.add_mul]
    congr 1; omega
  have happ := (hold.append hnew).mono ev2.le
  obtain ⟨k1, k2⟩ := s2.newCells (A' := A1 ++ [.cells (old ++ new) ⟨false, 0⟩]) hb A.length (by rw [← hlen]; exact hs1.fresh) (by rw [← hlen]; simp) (by simp) (fun a ha => by
      by_cases hlt : a < A1.length
      · rw [List.getElem?_append_left hlt]
      · rw [List.getElem?_eq_none (by simp; omega), List.getElem?_eq_none (by omega)]) (old ++ new) ⟨false, 0⟩ hx0 hlf cs' e
      (by rw [hcss]; simp only [List.length_append, ho, hn, ← Nat.add_mul]; exact Nat.mul_le_mul_right _ hcap')
      (fun j v hj => by
        obtain ⟨v', q1, q2⟩ := happ.app_left (Builtin.zeroCells z.cells (cap - (n + m))).toList hj
        rw [← hcsl] at q1
        exact ⟨v', by simpa using q1, q2⟩)
  refine ⟨.value (.slice (some ⟨W.heap.size, 0, none⟩) (n + m) cap), .slice (some ⟨W.heap.size, 0, none⟩) (n + m) cap, _, _, ?_, .inl rfl, k1, (Ev.trans ⟨hle, .refl _ _, fun _ _ h => h, fun _ l h => ⟨l, h⟩⟩ ev2).trans k2, ?_⟩
  · have ht : c0.argTypes = #[T, xT] := by rw [← Array.toArray_toList (xs := c0.argTypes), htys]
    rw [exec_call h]
    simp only [resolve, hc, args_of hargs, Sem.run_bind, Sem.run_pure, Result.andThen_ok, pure_bind, invoke, builtin, ht]
    have : (List.map act.eval [x, y]).toArray = #[act.eval x, act.eval y] := rfl
    simp [hx, hy, hrun]
  · refine .slice ⟨A.length, 0, none⟩ _ _ _ _ 0 (upd_same _ _ _) rfl hcap' fun _ => ?_
    unfold szW
    have := heap_alloc_self (W := W.drew) (.cells cs' e)
    have hh : (W.drew.alloc (.cells cs' e)).heap[W.heap.size]? = some (.cells cs' e) := this
    change 0 + 0 + cap * i.size ≤ (match (W.drew.alloc (.cells cs' e)).heap[W.heap.size]? with | some (.cells c _ _) => c.size | _ => 0)
    rw [hh]
    simp [hcss]

/-- The row has room. -/
theorem room_done {T xT e e2 : TypeId} {i : TypeInfo} {c0 : Call} (h : oc.op = .call c0) (hc : c0.callee = .builtin .append) {x y : Operand} (hargs : c0.args.toList = [x, y]) (htys : c0.argTypes.toList = [T, xT])
    (hT : P.underlying T = some (.slice e)) (hxT : P.underlying xT = some (.slice e2)) (hi : P.info? e = some i)
    {A : AMem} {ι : Iota} {W : World} {act : Act} (hs : Sim P base A ι W) (p : Addr) (b o : Nat) (hib : ι p.block = some (b, o)) (cs : List Value) (mt : Meta) (hA : A[p.block]? = some (.cells cs mt)) (hro : mt.ro = false)
    (r : Option Addr) (n c m cm : Nat) (hx : act.eval x = .slice (some ⟨b, o + p.off, none⟩) n c) (hy : act.eval y = .slice r m cm) (new new' : List Value)
    (hlf : new.all leafV = true) (hnew : LRel A ι W new new') (hn : new.length = m * i.size) (hoff : p.off + n * i.size ≤ cs.length) (hbnd : o + p.off + c * i.size ≤ szW W b)
    (rnew : (Builtin.firstCells i.size m (.slice r m cm)).run P W = .ok new'.toArray W)
    (hg : n + m ≤ c) :
    Done P base oc act A ι W (.slice (some ⟨A.length, 0, none⟩) (n + m) i.size) (A.set p.block .dead ++ [.cells ((cs.drop p.off).take (n * i.size) ++ new) ⟨false, 0⟩]) := by
  obtain ⟨cs', t, fr, hb, b1, b2, b3⟩ := hs.cells p.block b o cs mt hib hA
  obtain ⟨rfl, hbase⟩ := b3 hro
  have hszb : szW W b = cs'.size := by unfold szW; rw [hb]
  have hone := hnew.leaf hlf
  rw [hszb] at hbnd
  have hmul : n * i.size + m * i.size ≤ c * i.size := by rw [← Nat.add_mul]; exact Nat.mul_le_mul_right _ hg
  have hrun := run_storeCells_at P b (o + p.off + n * i.size) t new' 0 cs' W hb (by rw [← hnew.1, hn]; omega) hone
  simp only [Nat.add_zero] at hrun
  generalize hna : (cs'.toList.take (o + p.off + n * i.size) ++ new' ++ cs'.toList.drop (o + p.off + n * i.size + new'.length)).toArray = na at hrun
  have hnaget : ∀ j : Nat, na[j]? = if o + p.off + n * i.size ≤ j ∧ j < o + p.off + n * i.size + new'.length then new'[j - (o + p.off + n * i.size)]? else cs'[j]? := fun j => by
    rw [← hna]
    have := seg_get cs'.toList (o + p.off + n * i.size) new' (by rw [← hnew.1, hn]; simp; omega) j
    simpa using this
  have hnasz : na.size = cs'.size := by rw [← hna]; simp; rw [← hnew.1, hn]; omega
  have hroom := run_room (P := P) (ty := oc.type) hT hxT hi ⟨b, o + p.off, none⟩ r n c m cm W _ new' rnew hg (by rw [addr_add]; exact hrun)
  have hheap := setRow_heap W b cs' na t (0, 0) hb
  have hoth := fun k (hk : k ≠ b) => setRow_other W b k na hk
  have hsz : ∀ k, szW W k ≤ szW (W.setRow b na) k := fun k => by
    unfold szW
    by_cases e : k = b
    · subst e; rw [hb, hheap]; simp [hnasz]
    · rw [hoth k e]; exact Nat.le_refl _
  obtain ⟨s1, le1⟩ := hs.kill p.block (by rw [hA]; simp)
  have halt := hs.lt hib
  have hA1 : ∀ a : Nat, a ≠ A.length → (A.set p.block .dead ++ [AObj.cells ((cs.drop p.off).take (n * i.size) ++ new) ⟨false, 0⟩])[a]? = (A.set p.block .dead)[a]? := fun a ha => by
    by_cases hlt : a < A.length
    · rw [List.getElem?_append_left (by simpa using hlt)]
    · rw [List.getElem?_eq_none (by simp; omega), List.getElem?_eq_none (by simp; omega)]
  have hx0 : (A.set p.block .dead ++ [AObj.cells ((cs.drop p.off).take (n * i.size) ++ new) ⟨false, 0⟩])[A.length]? = some (.cells ((cs.drop p.off).take (n * i.size) ++ new) ⟨false, 0⟩) := by
    have : (A.set p.block .dead).length = A.length := by simp
    rw [← this]; simp
  have le2 : Le (A.set p.block .dead) ι W (A.set p.block .dead ++ [AObj.cells ((cs.drop p.off).take (n * i.size) ++ new) ⟨false, 0⟩]) (upd ι A.length b (o + p.off)) (W.setRow b na) :=
    Le.put A.length b (o + p.off) hA1 (upd_other A.length _ _) (upd_same _ _ _) ⟨by rw [List.getElem?_eq_none (by simp)]; simp, .inl ⟨hs.fresh, by simp⟩⟩ (by simp) hsz (fun cs0 m0 e => by rw [List.getElem?_eq_none (by simp)] at e; cases e)
  have hfree : ∀ a o', a ≠ A.length → ι a = some (b, o') → (A.set p.block .dead)[a]? = some .dead := fun a o' hne hi' => by
    by_cases e : a = p.block
    · subst e; rw [List.getElem?_set]; simp [halt]
    · have := hs.sep p.block a b o o' (Ne.symm e) hib hi' (.inl ⟨cs, mt, hA, hro⟩)
      rw [List.getElem?_set, if_neg (Ne.symm e)]; exact this
  have hlenold : ((cs.drop p.off).take (n * i.size)).length = n * i.size := by simp; omega
  have s2 := s1.put A.length b (o + p.off) _ hA1 hx0 (upd_other A.length _ _) (upd_same _ _ _) le2 hfree (fun k hk _ => hoth k hk) (by simp) (by
    intro cs0 m0 e0
    cases e0
    refine ⟨na, t, (0, 0), hheap, by rw [hnasz, List.length_append, hlenold, hn]; omega, fun j v hj => ?_, fun _ => ⟨rfl, hbase⟩⟩
    rw [List.getElem?_append, hlenold] at hj
    rw [hnaget]
    split at hj
    · rename_i hlt
      rw [if_neg (by omega)]
      rw [List.getElem?_take, if_pos hlt, List.getElem?_drop] at hj
      obtain ⟨v', q1, q2⟩ := b2 _ v hj
      exact ⟨v', by rw [Nat.add_assoc]; exact q1, (q2.mono le1).mono le2⟩
    · rename_i hge
      have hjl : j - n * i.size < new.length := (List.getElem?_eq_some_iff.1 hj).1
      rw [if_pos (by rw [← hnew.1]; omega), show o + p.off + j - (o + p.off + n * i.size) = j - n * i.size by omega]
      obtain ⟨v', q1, q2⟩ := hnew.get hj
      exact ⟨v', q1, (q2.mono le1).mono le2⟩) (fun l e => by cases e) (fun cs0 m0 e => by
    cases e
    have hcl := hs.leaf _ _ _ _ _ hib hA
    rw [List.all_eq_true] at hcl hlf ⊢
    intro v hv
    rcases List.mem_append.1 hv with hv | hv
    · exact hcl v (List.mem_of_mem_drop (List.mem_of_mem_take hv))
    · exact hlf v hv)
  refine ⟨.value (.slice (some ⟨b, o + p.off, none⟩) (n + m) c), .slice (some ⟨b, o + p.off, none⟩) (n + m) c, W.setRow b na, upd ι A.length b (o + p.off), ?_, .inl rfl, s2, ⟨le1.trans le2, ⟨rfl, rfl, rfl, by simp, fun k hk => hoth k (by omega)⟩, fun r ds e => ?_, fun r l e => ?_⟩, ?_⟩
  · have ht : c0.argTypes = #[T, xT] := by rw [← Array.toArray_toList (xs := c0.argTypes), htys]
    rw [exec_call h]
    simp only [resolve, hc, args_of hargs, Sem.run_bind, Sem.run_pure, Result.andThen_ok, pure_bind, invoke, builtin, ht]
    simp [hx, hy, hroom]
  · by_cases er : r = b
    · subst er; rw [hb] at e; cases e
    · rw [hoth r er]; exact e
  · by_cases er : r = b
    · subst er; rw [hb] at e; cases e
    · exact ⟨l, by rw [hoth r er]; exact e⟩
  · refine .slice ⟨A.length, 0, none⟩ _ _ _ b (o + p.off) (upd_same _ _ _) rfl hg fun _ => ?_
    unfold szW
    rw [hheap]
    simp [hnasz]; omega

end
end Go.Ax
