/- Ranging over functions: names for what the interpreter does. -/
import Derived.Test.YtjmeilpffmhojaaAxSep
set_option linter.unusedVariables false
namespace Go.Ax
open Go

/-- What comes behind a range over a function. -/
def rangeK (n : Nat) (r : Value × AMem) (N : AMem → Res) (X : AExit → AMem → Res) : Res :=
  match r.2[n]? with
  | some (.loop l) => if l.state = .busy then none else
      match l.pending with
      | none => N (r.2.set n .dead)
      | some e => X e (r.2.set n .dead)
  | _ => none

def funK (v : Value) (K : FuncId → List Value → List Value → Res) : Res :=
  match v with
  | .func fn first cap => match fn with
    | .func g => K g first.toList cap.toList
    | _ => none
  | _ => none

@[simp] theorem funK_func (g : FuncId) (x y : Array Value) (K : FuncId → List Value → List Value → Res) : funK (.func (.func g) x y) K = K g x.toList y.toList := rfl

/-- A call of a function that is a value. -/
def callK (v : Value) (K : FuncId → List Value → List Value → Res) (Y : Nat → Res) : Res :=
  match v with
  | .func fn first cap => match fn with
    | .func g => K g first.toList cap.toList
    | .yield l => Y l
    | _ => none
  | _ => none

@[simp] theorem callK_func (g : FuncId) (x y : Array Value) (K : FuncId → List Value → List Value → Res) (Y : Nat → Res) : callK (.func (.func g) x y) K Y = K g x.toList y.toList := rfl

theorem rangeK_normal {n : Nat} {v : Value} {M : AMem} {N : AMem → Res} {X : AExit → AMem → Res} {l : ALoop} (h : M[n]? = some (.loop l)) (hs : l.state ≠ .busy) (hp : l.pending = none) : rangeK n (v, M) N X = N (M.set n .dead) := by
  unfold rangeK
  simp only [h, hs, hp, if_false]

theorem roundF_ops {L : Rec} {l : Nat} {args : List Value} {M : AMem} {r : ALoop} (hM : M[l]? = some (.loop r)) (hs : r.state = .ready) (hlen : args.length = r.params.length) (t' : List Value)
    (hass : ∀ K : KT, code L r.assign K (setParams r.tmps (r.params.zip args)) M = K .normal t' M) : roundF L l args M = code L r.body (roundK l) t' (M.set l (.loop { r with state := .busy })) := by
  unfold roundF
  simp only [hM, hs, hlen, and_self, if_true, hass]

theorem roundK_normal {l : Nat} {M : AMem} {r : ALoop} {t : List Value} (h : M[l]? = some (.loop r)) : roundK l .normal t M = some (.bool true, M.set l (.loop { r with state := .ready, pending := none })) := by
  unfold roundK
  simp only [h]

theorem roundF_wr {L : Rec} {l : Nat} {args : List Value} {M M1 : AMem} {r : ALoop} {w : Option AMem} (hM : M[l]? = some (.loop r)) (hs : r.state = .ready) (hlen : args.length = r.params.length) (hw : w = some M1)
    (hM1 : M1[l]? = some (.loop r)) (t' : List Value)
    (hass : ∀ K : KT, code L r.assign K (setParams r.tmps (r.params.zip args)) M = w.bind fun M' => K .normal t' M') : roundF L l args M = code L r.body (roundK l) t' (M1.set l (.loop { r with state := .busy })) := by
  unfold roundF
  subst hw
  simp only [hM, hs, hlen, and_self, if_true, hass, Option.bind_some, hM1]

end Go.Ax
