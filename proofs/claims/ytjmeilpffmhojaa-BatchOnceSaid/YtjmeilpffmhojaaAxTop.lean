/- From the interpreter's answer to the row. -/
import Derived.Test.YtjmeilpffmhojaaAxLim
import Derived.Test.YtjmeilpffmhojaaAxDraw3
import Derived.ProofKit
set_option linter.unusedVariables false
set_option linter.unusedSimpArgs false
namespace Go.Ax
open Go Go.RowKit Go.ChangeShapes Go.WideShapes

theorem calls_of_lim {P : Program} {E : Env} (hE : EnvOk P E) (hm : P.follows .mixedOrders = true) {f : FuncId} {args : List Value} {A : AMem} {r : Value × AMem} (h : (lim E).call f args A = some r)
    {base : Nat} {ι : Iota} {W : World} {args' : Array Value} (hs : Sim P base A ι W) (ha : LRel A ι W args args'.toList) (hb : base ≤ W.heap.size) : Calls P f args' W (CallPost P base A ι W r) := by
  obtain ⟨n, hn⟩ := lim_call_iff.1 h
  exact ((run_ok hE (drawsOk hm) n).call f args A r hn base ι W args' hs ha hb).2

/-- Arguments read behind the call as they did before. -/
theorem trodAll_below {H : Type} {enc : TypeId × Value → H} {P : Program} (hl : laidOutB P = true) {W W' : World} (hb : Below W.heap.size W W') : ∀ {ts : List TypeId} {vs : List Value} {ds : List (DataW H)} {ps : List MemPlace},
    (∀ t ∈ ts, P.readableRec t = true ∧ t < P.types.size) → DataW.TrodAll enc P W 0 (fun _ => true) true ts vs ds ps → (∀ x ∈ ps, x.block < W.heap.size) →
    DataW.TrodAll enc P W' 0 (fun b => decide (b < W.heap.size)) true ts vs ds ps
  | [], vs, ds, ps, _, h, _ => by
    obtain ⟨rfl, rfl, rfl⟩ := trodAll_nil h
    rfl
  | t :: ts, vs, ds, ps, ht, h, hlt => by
    obtain ⟨v, vs', d, ds', p, q, rfl, rfl, rfl, h1, h2⟩ := trodAll_cons h
    have ht0 := ht t (by simp)
    exact ⟨p, q, Below.trod hl ht0.1 ht0.2 h1 hb fun x hx => hlt x (by simp [hx]), trodAll_below hl hb (fun t' h' => ht t' (by simp [h'])) h2 fun x hx => hlt x (by simp [hx]), rfl⟩

theorem trodAll_length {H : Type} {enc : TypeId × Value → H} {P : Program} {w : World} {base : Nat} {spare : Nat → Bool} {held : Bool} : ∀ {ts : List TypeId} {vs : List Value} {ds : List (DataW H)} {ps : List MemPlace},
    DataW.TrodAll enc P w base spare held ts vs ds ps → ds.length = ts.length
  | [], vs, ds, ps, h => by
    obtain ⟨rfl, rfl, rfl⟩ := trodAll_nil h; rfl
  | t :: ts, vs, ds, ps, h => by
    obtain ⟨v, vs', d, ds', p, q, rfl, rfl, rfl, h1, h2⟩ := trodAll_cons h
    simp [trodAll_length h2]

/-- The row: the law answers true whatever it is given. -/
theorem lifted_of_lim {H : Type} {enc : TypeId × Value → H} {C : Checked} {os : Os} {f : FuncId} {fn : Func} {s : ChangeSpec} {E : Env} (own : ownKnob C.prog.godebug = none) (started : os.Started)
    (noInit : C.prog.inits.idxOf? f = none) (hfn : C.prog.funcs[f]? = some fn)
    (witness : ∃ (w : World) (tape : Tape) (i : Input), w.os = os ∧ (w.forCall tape i).Shaped C.prog ∧ i.vars = [] ∧ Input.okWide C.prog (w.forCall tape i) .any w.heap.size f i ∧
      s.pre6 enc C.prog fn [] false (w.forCall tape i).memory i.args ∧ ({} : Assume).holds C.prog (lone (Frame.enter C.prog f i.args .normal) [] (w.forCall tape i)))
    (hl : laidOutB C.prog = true) (hpar : fn.params.toList.all (fun t => C.prog.readableRec t && decide (t < C.prog.types.size)) = true) {tb : TypeId} (hres : fn.resultTypes = #[tb]) (hb : C.prog.underlying tb = some .bool)
    (hvars : s.vars = []) (hfnn : ∀ (ds : List (DataW H)), ds.length = fn.params.size → s.fn H ds = { results := [.lit (.bool true)], args := ds })
    (hE : EnvOk C.prog E) (hm : C.prog.follows .mixedOrders = true)
    (main : ∀ (W : World) (base : Nat) (args : Array Value) (ds : List (DataW H)) (p : List MemPlace), (∀ (j : Nat) t v, fn.params[j]? = some t → args[j]? = some v → Value.okWide C.prog W .any base t v) →
      DataW.TrodAll enc C.prog W 0 (fun _ => true) true fn.params.toList args.toList ds p →
      ∃ (A : AMem) (ι : Iota) (args0 : List Value) (A' : AMem), Sim C.prog W.heap.size A ι W ∧ LRel A ι W args0 args.toList ∧ (lim E).call f args0 A = some (.bool true, A')) :
    ReturnsInHanded {} C os f .any (s.pre6 enc C.prog fn [] false) (s.post enc C.prog fn false true false false) := by
  refine returnsInHanded_of_change own started noInit hfn witness ?_
  intro W base args ds gs before hval hW _ _
  have hW' := hW
  obtain ⟨p, q, hA, hV, rfl, hfz, hnd⟩ := hW
  rw [hvars] at hV
  obtain ⟨rfl, rfl⟩ := trodVars_none hV
  obtain ⟨A, ι, args0, A', hs, ha, hc⟩ := main W base args ds p hval hA
  refine (calls_of_lim hE hm hc hs ha (Nat.le_refl _)).mono fun e W' he => ?_
  obtain ⟨v', ι', rfl, s1, ev, vr⟩ := he
  have hv : v' = .bool true := bool_inv vr
  subst hv
  refine ⟨_, rfl, ds, [], p ++ [], [], p, [], hW', ?_, ?_, ?_, ev.below.frame _, fun h => by cases h⟩
  · rw [List.append_nil, hfnn ds (by simpa using trodAll_length hA), hres]
    exact trodAll_mk1 (shut_bool hb true)
  · rw [List.append_nil, hfnn ds (by simpa using trodAll_length hA)]
    refine trodAll_below hl ev.below (fun t ht => ?_) hA fun x hx => hW'.lt x (by simp [hx])
    rw [List.all_eq_true] at hpar
    simpa using hpar t ht
  · rw [hvars, List.append_nil, hfnn ds (by simpa using trodAll_length hA)]
    rfl

end Go.Ax
