/- Part 5 of the proof: WMid, EqRef32, EqRef09, WBuf, CombT, WOf, WStr, EqBatch, EqCell, Cell, WBat, EqFlush, FlushP, FlushN, FlushM, FlushF, WSt, CombS, WCmp, WCol, EqRef33, WNew. -/
import Derived.Test.YtbclhglmdhojdaaGreatZwD
set_option linter.unusedVariables false
set_option linter.unusedSimpArgs false
set_option maxRecDepth 100000
namespace Go.Proofs.YtbclhglmdhojdaaGreat
open Go Go.Ax
structure Mid (M : AMem) (b o : Nat) (A X B : List Value) : Prop where
  cs : Cells M b (A ++ X ++ B)
  at' : A.length = o
theorem Mid.ld {M : AMem} {b o : Nat} {A X B : List Value} (h : Mid M b o A X B) (j : Nat) {v : Value} (hj : X[j]? = some v) : M.ld b (o + j) = some v := by
  have hl := (ges.1 hj).1
  rw [h.cs.ld, ← h.at', List.append_assoc, List.getElem?_append_right (by omega), Nat.add_sub_cancel_left, List.getElem?_append_left hl, hj]
theorem Mid.ld0 {M : AMem} {b o : Nat} {A X B : List Value} (h : Mid M b o A X B) {v : Value} (hj : X[0]? = some v) : M.ld b o = some v := h.ld 0 hj
theorem wrL_mid : ∀ (vs A X B : List Value) (j : Nat), j + vs.length ≤ X.length → wrL (A ++ X ++ B) (A.length + j) vs = A ++ wrL X j vs ++ B
  | [], _, _, _, _, _ => rfl
  | v :: vs, A, X, B, j, h => by
    simp only [List.length_cons] at h
    simp only [wrL]
    have e : (A ++ X ++ B).set (A.length + j) v = A ++ X.set j v ++ B := by
      rw [List.append_assoc, List.set_append_right _ _ (by omega), Nat.add_sub_cancel_left, List.set_append_left _ _ (by omega), List.append_assoc]
    rw [e, Nat.add_assoc]
    exact wrL_mid vs A (X.set j v) B (j + 1) (by simp; omega)
theorem Mid.wr {M : AMem} {b o : Nat} {A X B : List Value} (h : Mid M b o A X B) (j : Nat) (vs : List Value) (hj : j + vs.length ≤ X.length) :
    ∃ M', M.wr b (o + j) vs = some M' ∧ Mid M' b o A (wrL X j vs) B ∧ Same M M' [b] := by
  obtain ⟨M', w1, w2, w3, _⟩ := h.cs.wr (o := o + j) (vs := vs) (by simp; have := h.at'; omega)
  rw [← h.at', wrL_mid _ _ _ _ _ hj] at w2
  exact ⟨M', w1, ⟨w2, h.at'⟩, w3⟩
theorem Mid.wr0 {M : AMem} {b o : Nat} {A X B : List Value} (h : Mid M b o A X B) (vs : List Value) (hj : vs.length ≤ X.length) :
    ∃ M', M.wr b o vs = some M' ∧ Mid M' b o A (wrL X 0 vs) B ∧ Same M M' [b] := h.wr 0 vs (by omega)
theorem Mid.same {M M' : AMem} {S : List Nat} {b o : Nat} {A X B : List Value} (h : Mid M b o A X B) (k : Same M M' S) (hb : b ∉ S) : Mid M' b o A X B := ⟨h.cs.same k hb, h.at'⟩
theorem Mid.part {M : AMem} {b o : Nat} {A X Y Z B : List Value} {j : Nat} (h : Mid M b o A (X ++ Y ++ Z) B) (hj : X.length = j) : Mid M b (o + j) (A ++ X) Y (Z ++ B) :=
  ⟨by have := h.cs; simpa [List.append_assoc] using this, by rw [List.length_append, h.at', hj]⟩
theorem Mid.whole {M : AMem} {b o j : Nat} {A X Y Z B : List Value} (h : Mid M b (o + j) (A ++ X) Y (Z ++ B)) (hj : X.length = j) : Mid M b o A (X ++ Y ++ Z) B :=
  ⟨by have := h.cs; simpa [List.append_assoc] using this, by have := h.at'; rw [List.length_append, hj] at this; omega⟩
theorem flat_split {T : Type} (enc : T → List Value) {l : List T} {k : Nat} {x : T} (h : l[k]? = some x) : l.flatMap enc = (l.take k).flatMap enc ++ enc x ++ (l.drop (k + 1)).flatMap enc := by
  obtain ⟨hk, rfl⟩ := ges.1 h
  exact (congrArg (List.flatMap enc) (List.take_append_drop k l)).symm.trans (by rw [List.drop_eq_getElem_cons hk, List.flatMap_append, List.flatMap_cons, List.append_assoc])
theorem flat_set {T : Type} (enc : T → List Value) {l : List T} {k : Nat} (x : T) (h : k < l.length) : (l.set k x).flatMap enc = (l.take k).flatMap enc ++ enc x ++ (l.drop (k + 1)).flatMap enc := by
  rw [flat_split enc (l := l.set k x) (k := k) (x := x) (by simp [h]), List.take_set_of_le (Nat.le_refl k), List.drop_set_of_lt (by omega)]
theorem mid_of {T : Type} {enc : T → List Value} {n : Nat} (hn : ∀ x, (enc x).length = n) {M : AMem} {b k : Nat} {l : List T} {x : T} (h : Cells M b (l.flatMap enc)) (hx : l[k]? = some x) :
    Mid M b (k * n) ((l.take k).flatMap enc) (enc x) ((l.drop (k + 1)).flatMap enc) :=
  ⟨flat_split enc hx ▸ h, by rw [flatMap_length hn, List.length_take_of_le (Nat.le_of_lt (ges.1 hx).1)]⟩
theorem mid_to {T : Type} {enc : T → List Value} {M : AMem} {b k o : Nat} {l : List T} {y : T} (hk : k < l.length) (h : Mid M b o ((l.take k).flatMap enc) (enc y) ((l.drop (k + 1)).flatMap enc)) : Cells M b ((l.set k y).flatMap enc) :=
  flat_set enc y hk ▸ h.cs
theorem E34 (D : Rec) (a b v : Int) (E : AMem) : enterF D a34 [.agg #[.int .i64 a, .int .i64 b], .int .i64 v] E = (Option.bind (intOf? .i64 (AMem.ld ((E ++ [AObj.cells [.int .i64 a, .int .i64 b] ⟨false, 0⟩]) ++ [AObj.cells [.int .i64 0, .int .i64 0, .int .i64 0, .slice none 0 0] ⟨false, 0⟩]) E.length 0)) fun w => (Option.bind (intOf? .i64 (AMem.ld ((E ++ [AObj.cells [.int .i64 a, .int .i64 b] ⟨false, 0⟩]) ++ [AObj.cells [.int .i64 0, .int .i64 0, .int .i64 0, .slice none 0 0] ⟨false, 0⟩]) E.length 1)) fun x => (Option.bind (D.call 4 [.agg #[.int .i64 w, .int .i64 x]] []) fun y => (Option.bind (boolOf? (some y.1)) fun z => (if (!z) = true then (Option.bind (AMem.wr ((E ++ [AObj.cells [.int .i64 a, .int .i64 b] ⟨false, 0⟩]) ++ [AObj.cells [.int .i64 0, .int .i64 0, .int .i64 0, .slice none 0 0] ⟨false, 0⟩]) (List.length (E ++ [AObj.cells [.int .i64 a, .int .i64 b] ⟨false, 0⟩])) 0 [.int .i64 0, .int .i64 0, .int .i64 0, .slice none 0 0]) fun f => (Option.bind (intOf? .i64 (f.ld (List.length (E ++ [AObj.cells [.int .i64 a, .int .i64 b] ⟨false, 0⟩])) 0)) fun A => (Option.bind (intOf? .i64 (f.ld (List.length (E ++ [AObj.cells [.int .i64 a, .int .i64 b] ⟨false, 0⟩])) 1)) fun B => (Option.bind (intOf? .i64 (f.ld (List.length (E ++ [AObj.cells [.int .i64 a, .int .i64 b] ⟨false, 0⟩])) 2)) fun C => (Option.bind (sliceOf? (f.ld (List.length (E ++ [AObj.cells [.int .i64 a, .int .i64 b] ⟨false, 0⟩])) 3)) fun j => some (.tuple #[.agg #[.int .i64 A, .int .i64 B, .int .i64 C, .slice j.1 j.2.1 j.2.2], .bool false], f)))))) else (if (decide (v < 1)) = true then (Option.bind (AMem.wr ((E ++ [AObj.cells [.int .i64 a, .int .i64 b] ⟨false, 0⟩]) ++ [AObj.cells [.int .i64 0, .int .i64 0, .int .i64 0, .slice none 0 0] ⟨false, 0⟩]) (List.length (E ++ [AObj.cells [.int .i64 a, .int .i64 b] ⟨false, 0⟩])) 0 [.int .i64 0, .int .i64 0, .int .i64 0, .slice none 0 0]) fun c => (Option.bind (intOf? .i64 (c.ld (List.length (E ++ [AObj.cells [.int .i64 a, .int .i64 b] ⟨false, 0⟩])) 0)) fun k => (Option.bind (intOf? .i64 (c.ld (List.length (E ++ [AObj.cells [.int .i64 a, .int .i64 b] ⟨false, 0⟩])) 1)) fun l => (Option.bind (intOf? .i64 (c.ld (List.length (E ++ [AObj.cells [.int .i64 a, .int .i64 b] ⟨false, 0⟩])) 2)) fun m => (Option.bind (sliceOf? (c.ld (List.length (E ++ [AObj.cells [.int .i64 a, .int .i64 b] ⟨false, 0⟩])) 3)) fun g => some (.tuple #[.agg #[.int .i64 k, .int .i64 l, .int .i64 m, .slice g.1 g.2.1 g.2.2], .bool false], c)))))) else (if (decide (v > 4096)) = true then (Option.bind (AMem.wr ((E ++ [AObj.cells [.int .i64 a, .int .i64 b] ⟨false, 0⟩]) ++ [AObj.cells [.int .i64 0, .int .i64 0, .int .i64 0, .slice none 0 0] ⟨false, 0⟩]) (List.length (E ++ [AObj.cells [.int .i64 a, .int .i64 b] ⟨false, 0⟩])) 0 [.int .i64 0, .int .i64 0, .int .i64 0, .slice none 0 0]) fun d => (Option.bind (intOf? .i64 (d.ld (List.length (E ++ [AObj.cells [.int .i64 a, .int .i64 b] ⟨false, 0⟩])) 0)) fun n => (Option.bind (intOf? .i64 (d.ld (List.length (E ++ [AObj.cells [.int .i64 a, .int .i64 b] ⟨false, 0⟩])) 1)) fun o => (Option.bind (intOf? .i64 (d.ld (List.length (E ++ [AObj.cells [.int .i64 a, .int .i64 b] ⟨false, 0⟩])) 2)) fun p => (Option.bind (sliceOf? (d.ld (List.length (E ++ [AObj.cells [.int .i64 a, .int .i64 b] ⟨false, 0⟩])) 3)) fun h => some (.tuple #[.agg #[.int .i64 n, .int .i64 o, .int .i64 p, .slice h.1 h.2.1 h.2.2], .bool false], d)))))) else (Option.bind (intOf? .i64 (AMem.ld ((E ++ [AObj.cells [.int .i64 a, .int .i64 b] ⟨false, 0⟩]) ++ [AObj.cells [.int .i64 0, .int .i64 0, .int .i64 0, .slice none 0 0] ⟨false, 0⟩]) E.length 0)) fun q => (Option.bind (intOf? .i64 (AMem.ld ((E ++ [AObj.cells [.int .i64 a, .int .i64 b] ⟨false, 0⟩]) ++ [AObj.cells [.int .i64 0, .int .i64 0, .int .i64 0, .slice none 0 0] ⟨false, 0⟩]) E.length 1)) fun r => (Option.bind (AMem.wr ((E ++ [AObj.cells [.int .i64 a, .int .i64 b] ⟨false, 0⟩]) ++ [AObj.cells [.int .i64 0, .int .i64 0, .int .i64 0, .slice none 0 0] ⟨false, 0⟩]) (List.length (E ++ [AObj.cells [.int .i64 a, .int .i64 b] ⟨false, 0⟩])) 0 [.int .i64 q, .int .i64 r, .int .i64 v, .slice none 0 0]) fun e => (Option.bind (intOf? .i64 (e.ld (List.length (E ++ [AObj.cells [.int .i64 a, .int .i64 b] ⟨false, 0⟩])) 0)) fun s => (Option.bind (intOf? .i64 (e.ld (List.length (E ++ [AObj.cells [.int .i64 a, .int .i64 b] ⟨false, 0⟩])) 1)) fun t => (Option.bind (intOf? .i64 (e.ld (List.length (E ++ [AObj.cells [.int .i64 a, .int .i64 b] ⟨false, 0⟩])) 2)) fun u => (Option.bind (sliceOf? (e.ld (List.length (E ++ [AObj.cells [.int .i64 a, .int .i64 b] ⟨false, 0⟩])) 3)) fun i => some (.tuple #[.agg #[.int .i64 s, .int .i64 t, .int .i64 u, .slice i.1 i.2.1 i.2.2], .bool true], e))))))))))))))) := by kernel_rfl
def s73_6 (a : Option Addr) (b c : Int) (d : AMem) : List Value := .pointer a :: .int .i64 b :: jk 3 (.int .i64 c :: jk 20 [])
noncomputable def F73_6 (b a : ACode) (f : Rec) := fun c d e g => f.loop b (blockK 0 (seqK (code f (.clear zl30 a) (retK [.tmp 4])) (retK [.tmp 4]))) (s73_6 c d e g) g

noncomputable def P73_6 := hid (F73_6 b73_6 c73_23)
def s73_22 (a : Option Addr) (b c : Int) (d : AMem) : List Value := .pointer a :: .int .i64 b :: jk 3 (.int .i64 c :: jk 20 [])
noncomputable def F73_22 (c a b : ACode) (g : Rec) := fun d e f h => code g a (postK zl29 (loopK g c (blockK 0 (seqK (code g (.clear zl30 b) (retK [.tmp 4])) (retK [.tmp 4]))))) (s73_22 d e f h) h

noncomputable def P73_22 := hid (F73_22 b73_6 c73_22 c73_23)
def s73_23 (a : AMem) : List Value := jk 26 []
noncomputable def F73_23 (a : ACode) (b : Rec) := fun c => code b a (retK [.tmp 4]) (s73_23 c) c

noncomputable def P73_23 := hid (F73_23 c73_23)
theorem QP73_6_eq (t : Rec) (b c a : ACode) (s : HB t b (.post (.seq (.seq (.ops o73_9) (.cond (.tmp 12) (.skip) (.exit 0))) (.seq (.block 1 (.seq (.ops o73_16) (.cond (.tmp 24) (.seq (.ops o73_19) (.ret)) (.skip)))) (.clear zl29 c))) zl29)) (f) (i : f = F73_6 b a) (d) (g : d = F73_22 b c a) (e) (h : e = F73_23 a) (o : Option Addr) (p j : Int) (u : AMem) : f t o p j u = (match o with | some k => (Option.bind (sliceOf? (u.ld k.block (k.off + 3))) fun q => (if (decide (j < (Int.ofNat q.2.1))) = true then (match o with | some l => (Option.bind (sliceOf? (u.ld l.block (l.off + 3))) fun m => (match m.1 with | some n => (if (0 : Int) ≤ j ∧ j < (Int.ofNat m.2.1) then (Option.bind (intOf? .i64 (u.ld n.block (n.off + ((Int.toNat j) * 4)))) fun r => (if (r == p) = true then some (.int .i64 j, u) else d t o p j u)) else none) | none => none)) | none => none) else e t u)) | none => none) := by
  subst i; subst g; subst h; exact (s _ _ _).trans (by kernel_rfl)
abbrev P73_6_eq (L : Rec) (hL : HL L) := QP73_6_eq L _ _ _ (hL b73_6) P73_6 (hE _) P73_22 (hE _) P73_23 (hE _)
theorem QP73_22_eq (j : Rec) (c a : ACode) (d) (f : d = F73_6 c a) (b : Rec → (Option Addr) → Int → Int → AMem → Res) (e : Eq b fun j g h i k => code j (.ops o73_22) (postK zl29 (loopK j c (blockK 0 (seqK (code j (.clear zl30 a) (retK [.tmp 4])) (retK [.tmp 4]))))) (s73_22 g h i k) k) (g : Option Addr) (h i : Int) (k : AMem) : b j g h i k = d j g h (IntKind.wrap .i64 (i + 1)) k := by
  subst f; subst e; kernel_rfl
abbrev P73_22_eq (L : Rec) := QP73_22_eq L _ _ P73_6 (hE _) P73_22 (hE _)
theorem QP73_23_eq (c : Rec) (a : Rec → AMem → Res) (b : Eq a fun c d => code c (.seq (.ops o73_24) (.ret)) (retK [.tmp 4]) (s73_23 d) d) (d : AMem) : a c d = some (.int .i64 (-1), d) := by
  subst b; kernel_rfl
abbrev P73_23_eq (L : Rec) := QP73_23_eq L P73_23 (hE _)
theorem QE73 (g : Rec) (b a : ACode) (c) (d : c = F73_6 b a) (e : Option Addr) (f : Int) (h : AMem) : enterF g ⟨26, [.tmp 4], .seq (.ops o73_1) (.seq (.seq (.ops o73_4) (.block 0 (.clear zl29 (.loop b)))) (.clear zl30 a))⟩ [.pointer e, .int .i64 f] h = c g e f 0 h := by
  subst d; kernel_rfl
abbrev E73 (L : Rec) (x0 : Option Addr) (x1 : Int) (M : AMem) := (Eq.refl (enterF L a73 [.pointer x0, .int .i64 x1] M)).trans (QE73 L _ _ P73_6 (hE _) x0 x1 M)
def s44_28 (a : Option Addr) (b : Nat) (c : Int) (d : AMem) : List Value := .pointer a :: jk 2 (.pointer (some ⟨b, 0, none⟩) :: junk :: .int .i64 c :: jk 96 [])
noncomputable def F44_28 (a : ACode) (e : Rec) := fun b c d f => code e a (retK [.tmp 4]) (s44_28 b c d f) f

noncomputable def P44_28 := hid (F44_28 c44_28)
theorem QP44_28_eq (x : Rec) (b : Rec → (Option Addr) → Nat → Int → AMem → Res) (d : Eq b fun x h g e y => code x (.seq (.ops o44_29) (.seq (.draw [] 0 o44_31 []) (.seq (.ops o44_33) (.ret)))) (retK [.tmp 4]) (s44_28 h g e y) y) (h : Option Addr) (g : Nat) (e : Int) (y : AMem) : b x h g e y = (match h with | some i => (Option.bind (sliceOf? (y.ld i.block (i.off + 3))) fun j => (match j.1 with | some c => (if (0 : Int) ≤ e ∧ e < (Int.ofNat j.2.1) then (Option.bind (intOf? .u64 (y.ld c.block ((c.off + ((Int.toNat e) * 4)) + 1))) fun u => (Option.bind (intOf? .u64 (y.ld c.block (((c.off + ((Int.toNat e) * 4)) + 1) + 1))) fun v => (Option.bind (intOf? .u64 (y.ld c.block (((c.off + ((Int.toNat e) * 4)) + 1) + 2))) fun w => (Option.bind (AMem.wr (y ++ [AObj.cells [.int .u64 0, .int .u64 0, .int .u64 0] ⟨false, 0⟩]) y.length 0 [.int .u64 u, .int .u64 v, .int .u64 w]) fun a => (match h with | some k => (Option.bind (sliceOf? (a.ld k.block (k.off + 3))) fun l => (Option.bind (intOf? .i64 (a.ld g 0)) fun m => (Option.bind (intOf? .u64 (a.ld y.length 0)) fun n => (Option.bind (intOf? .i64 (a.ld g 1)) fun o => (Option.bind (intOf? .u64 (a.ld y.length 1)) fun p => (Option.bind (intOf? .i64 (a.ld g 2)) fun q => (Option.bind (intOf? .u64 (a.ld y.length 2)) fun r => (Option.bind (intOf? .i64 (a.ld g 3)) fun s => (match l.1 with | some f => (if (0 : Int) ≤ e ∧ e < (Int.ofNat l.2.1) then (Option.bind (a.wr f.block (f.off + ((Int.toNat e) * 4)) [.int .i64 m, .int .u64 (IntKind.wrap .u64 (n + (IntKind.wrap .u64 o))), .int .u64 (IntKind.wrap .u64 (p + (IntKind.wrap .u64 q))), .int .u64 (IntKind.wrap .u64 (r + (IntKind.wrap .u64 s)))]) fun t => some (.bool true, t)) else none) | none => none))))))))) | none => none))))) else none) | none => none)) | none => none) := by
  subst d; kernel_rfl
abbrev P44_28_eq (L : Rec) := QP44_28_eq L P44_28 (hE _)
theorem QE44 (W : Rec) (i : ACode) (f) (j : f = F44_28 i) (h : Option Addr) (b c d e : Int) (X : AMem) : enterF W ⟨102, [.tmp 4], .seq (.ops o44_1) (.seq (.seq (.draw [] 0 o44_4 []) (.cond (.tmp 25) (.seq (.ops o44_7) (.ret)) (.skip))) (.seq (.ops o44_11) (.seq (.seq (.draw [] 0 o44_14 []) (.cond (.tmp 43) (.seq (.ops o44_17) (.ret)) (.skip))) (.seq (.seq (.ops o44_22) (.cond (.tmp 45) (.seq (.ops o44_25) (.draw [] 0 o44_26 [(4, 8)])) (.skip))) (.clear zl40 i)))))⟩ [.pointer h, .agg #[.int .i64 b, .int .i64 c, .int .i64 d, .int .i64 e]] X = (Option.bind (intOf? .i64 (AMem.ld (X ++ [AObj.cells [.int .i64 b, .int .i64 c, .int .i64 d, .int .i64 e] ⟨false, 0⟩]) X.length 0)) fun O => (if (decide (O < 0)) = true then some (.bool false, (X ++ [AObj.cells [.int .i64 b, .int .i64 c, .int .i64 d, .int .i64 e] ⟨false, 0⟩])) else (Option.bind (intOf? .i64 (AMem.ld (X ++ [AObj.cells [.int .i64 b, .int .i64 c, .int .i64 d, .int .i64 e] ⟨false, 0⟩]) X.length 0)) fun P => (match h with | some y => (Option.bind (intOf? .i64 (AMem.ld (X ++ [AObj.cells [.int .i64 b, .int .i64 c, .int .i64 d, .int .i64 e] ⟨false, 0⟩]) y.block y.off)) fun Q => (if (decide (P ≥ Q)) = true then some (.bool false, (X ++ [AObj.cells [.int .i64 b, .int .i64 c, .int .i64 d, .int .i64 e] ⟨false, 0⟩])) else (Option.bind (intOf? .i64 (AMem.ld (X ++ [AObj.cells [.int .i64 b, .int .i64 c, .int .i64 d, .int .i64 e] ⟨false, 0⟩]) X.length 1)) fun R => (Option.bind (intOf? .i64 (AMem.ld (X ++ [AObj.cells [.int .i64 b, .int .i64 c, .int .i64 d, .int .i64 e] ⟨false, 0⟩]) X.length 2)) fun S => (Option.bind (intOf? .i64 (AMem.ld (X ++ [AObj.cells [.int .i64 b, .int .i64 c, .int .i64 d, .int .i64 e] ⟨false, 0⟩]) X.length 3)) fun T => (Option.bind (W.call 31 [.agg #[.int .i64 R, .int .i64 S, .int .i64 T]] []) fun U => (Option.bind (boolOf? (some U.1)) fun V => (if (!V) = true then some (.bool false, (X ++ [AObj.cells [.int .i64 b, .int .i64 c, .int .i64 d, .int .i64 e] ⟨false, 0⟩])) else (Option.bind (intOf? .i64 (AMem.ld (X ++ [AObj.cells [.int .i64 b, .int .i64 c, .int .i64 d, .int .i64 e] ⟨false, 0⟩]) X.length 0)) fun z => (Option.bind (W.call 73 [.pointer h, .int .i64 z] (X ++ [AObj.cells [.int .i64 b, .int .i64 c, .int .i64 d, .int .i64 e] ⟨false, 0⟩])) fun a => (Option.bind (intOf? .i64 (some a.1)) fun g => (if (decide (g < 0)) = true then (match h with | some s => (Option.bind (sliceOf? (a.2.ld s.block (s.off + 3))) fun A => (match h with | some t => (Option.bind (intOf? .i64 (a.2.ld t.block (t.off + 2))) fun B => (if (decide ((Int.ofNat A.2.1) ≥ B)) = true then some (.bool false, a.2) else (if (decide (g < 0)) = true then (match h with | some u => (Option.bind (sliceOf? (a.2.ld u.block (u.off + 3))) fun C => (match h with | some k => (Option.bind (sliceOf? (a.2.ld k.block (k.off + 3))) fun l => (Option.bind (intOf? .i64 (a.2.ld X.length 0)) fun m => (Option.bind (rowOf (a.2 ++ [AObj.cells [.int .i64 m, .int .u64 0, .int .u64 0, .int .u64 0] ⟨false, 0⟩]) 4 (.slice (some ⟨a.2.length, 0, none⟩) 1 4)) fun q => (appendK 4 32 l.1 l.2.1 l.2.2 1 q (a.2 ++ [AObj.cells [.int .i64 m, .int .u64 0, .int .u64 0, .int .u64 0] ⟨false, 0⟩]) fun D E F G => (match h with | some v => (Option.bind (G.wr v.block (v.off + 3) [.slice D E F]) fun H => (if chkOk [(4, 8)] [(4, k.block)] [(8, (a.2, (a.2 ++ [AObj.cells [.int .i64 m, .int .u64 0, .int .u64 0, .int .u64 0] ⟨false, 0⟩])))] = true then f W h X.length (Int.ofNat C.2.1) H else none)) | none => none))))) | none => none)) | none => none) else f W h X.length g a.2))) | none => none)) | none => none) else (if (decide (g < 0)) = true then (match h with | some w => (Option.bind (sliceOf? (a.2.ld w.block (w.off + 3))) fun I => (match h with | some n => (Option.bind (sliceOf? (a.2.ld n.block (n.off + 3))) fun o => (Option.bind (intOf? .i64 (a.2.ld X.length 0)) fun p => (Option.bind (rowOf (a.2 ++ [AObj.cells [.int .i64 p, .int .u64 0, .int .u64 0, .int .u64 0] ⟨false, 0⟩]) 4 (.slice (some ⟨a.2.length, 0, none⟩) 1 4)) fun r => (appendK 4 32 o.1 o.2.1 o.2.2 1 r (a.2 ++ [AObj.cells [.int .i64 p, .int .u64 0, .int .u64 0, .int .u64 0] ⟨false, 0⟩]) fun J K L M => (match h with | some x => (Option.bind (M.wr x.block (x.off + 3) [.slice J K L]) fun N => (if chkOk [(4, 8)] [(4, n.block)] [(8, (a.2, (a.2 ++ [AObj.cells [.int .i64 p, .int .u64 0, .int .u64 0, .int .u64 0] ⟨false, 0⟩])))] = true then f W h X.length (Int.ofNat I.2.1) N else none)) | none => none))))) | none => none)) | none => none) else f W h X.length g a.2))))))))))))) | none => none)))) := by
  subst j; kernel_rfl
abbrev E44 (L : Rec) (x0 : Option Addr) (x1_0 x1_1 x1_2 x1_3 : Int) (M : AMem) := (Eq.refl (enterF L a44 [.pointer x0, .agg #[.int .i64 x1_0, .int .i64 x1_1, .int .i64 x1_2, .int .i64 x1_3]] M)).trans (QE44 L _ P44_28 (hE _) x0 x1_0 x1_1 x1_2 x1_3 M)
def s74_8 (e : Option Addr) (f : Int) (g : Option Addr) (a b : Nat) (h : Option Addr) (c d : Nat) (i : Int) (j : AMem) : List Value := .pointer e :: .int .i64 f :: jk 4 (.slice g a b :: .slice h c d :: .int .i64 i :: jk 47 [])
noncomputable def F74_8 (b a : ACode) (l : Rec) := fun g h i c d j e f k m => l.loop b (blockK 0 (seqK (code l (.clear zl62 a) (retK [.tmp 4, .tmp 5])) (retK [.tmp 4, .tmp 5]))) (s74_8 g h i c d j e f k m) m

noncomputable def P74_8 := hid (F74_8 b74_8 c74_23)
def s74_22 (e : Option Addr) (f : Int) (g : Option Addr) (a b : Nat) (h : Option Addr) (c d : Nat) (i : Int) (j : AMem) : List Value := .pointer e :: .int .i64 f :: jk 4 (.slice g a b :: .slice h c d :: .int .i64 i :: jk 47 [])
noncomputable def F74_22 (c a b : ACode) (m : Rec) := fun h i j d e k f g l n => code m a (postK zl61 (loopK m c (blockK 0 (seqK (code m (.clear zl62 b) (retK [.tmp 4, .tmp 5])) (retK [.tmp 4, .tmp 5]))))) (s74_22 h i j d e k f g l n) n

noncomputable def P74_22 := hid (F74_22 b74_8 c74_22 c74_23)
def s74_23 (e : Option Addr) (a b : Nat) (f : Option Addr) (c d : Nat) (g : AMem) : List Value := jk 6 (.slice e a b :: .slice f c d :: jk 48 [])
noncomputable def F74_23 (a : ACode) (h : Rec) := fun f b c g d e i => code h a (retK [.tmp 4, .tmp 5]) (s74_23 f b c g d e i) i

noncomputable def P74_23 := hid (F74_23 c74_23)
theorem QP74_8_eq (Z : Rec) (f g c : ACode) (Y : HB Z f (.post (.seq (.seq (.ops o74_11) (.cond (.tmp 15) (.skip) (.exit 0))) (.seq (.block 1 (.seq (.draw [] 0 o74_18 []) (.cond (.tmp 33) (.ops o74_20) (.ops o74_21)))) (.clear zl61 g))) zl61)) (i) (l : i = F74_8 f c) (d) (j : d = F74_22 f g c) (h) (k : h = F74_23 c) (s : Option Addr) (T : Int) (U : Option Addr) (m n : Nat) (V : Option Addr) (o p : Nat) (e : Int) (a0 : AMem) : i Z s T U m n V o p e a0 = (match s with | some E => (Option.bind (sliceOf? (a0.ld E.block (E.off + 3))) fun W => (if (decide (e < (Int.ofNat W.2.1))) = true then (match s with | some F => (Option.bind (sliceOf? (a0.ld F.block (F.off + 3))) fun G => (match G.1 with | some H => (if (0 : Int) ≤ e ∧ e < (Int.ofNat G.2.1) then (Option.bind (intOf? .i64 (a0.ld H.block (H.off + ((Int.toNat e) * 4)))) fun X => (match s with | some I => (Option.bind (intOf? .i64 (a0.ld I.block (I.off + 1))) fun J => (if J = 0 then none else (if ((Int.tmod X J) == T) = true then (match s with | some K => (Option.bind (sliceOf? (a0.ld K.block (K.off + 3))) fun t => (match t.1 with | some a => (if (0 : Int) ≤ e ∧ e < (Int.ofNat t.2.1) then (Option.bind (intOf? .i64 (a0.ld a.block (a.off + ((Int.toNat e) * 4)))) fun u => (Option.bind (intOf? .u64 (a0.ld a.block ((a.off + ((Int.toNat e) * 4)) + 1))) fun v => (Option.bind (intOf? .u64 (a0.ld a.block ((a.off + ((Int.toNat e) * 4)) + 2))) fun w => (Option.bind (intOf? .u64 (a0.ld a.block ((a.off + ((Int.toNat e) * 4)) + 3))) fun x => (Option.bind (rowOf (a0 ++ [AObj.cells [.int .i64 u, .int .u64 v, .int .u64 w, .int .u64 x] ⟨false, 0⟩]) 4 (.slice (some ⟨a0.length, 0, none⟩) 1 4)) fun q => (appendK 4 32 U m n 1 q (a0 ++ [AObj.cells [.int .i64 u, .int .u64 v, .int .u64 w, .int .u64 x] ⟨false, 0⟩]) fun L M N O => d Z s T L M N V o p e O)))))) else none) | none => none)) | none => none) else (match s with | some y => (Option.bind (sliceOf? (a0.ld y.block (y.off + 3))) fun z => (match z.1 with | some b => (if (0 : Int) ≤ e ∧ e < (Int.ofNat z.2.1) then (Option.bind (intOf? .i64 (a0.ld b.block (b.off + ((Int.toNat e) * 4)))) fun A => (Option.bind (intOf? .u64 (a0.ld b.block ((b.off + ((Int.toNat e) * 4)) + 1))) fun B => (Option.bind (intOf? .u64 (a0.ld b.block ((b.off + ((Int.toNat e) * 4)) + 2))) fun C => (Option.bind (intOf? .u64 (a0.ld b.block ((b.off + ((Int.toNat e) * 4)) + 3))) fun D => (Option.bind (rowOf (a0 ++ [AObj.cells [.int .i64 A, .int .u64 B, .int .u64 C, .int .u64 D] ⟨false, 0⟩]) 4 (.slice (some ⟨a0.length, 0, none⟩) 1 4)) fun r => (appendK 4 32 V o p 1 r (a0 ++ [AObj.cells [.int .i64 A, .int .u64 B, .int .u64 C, .int .u64 D] ⟨false, 0⟩]) fun P Q R S => d Z s T U m n P Q R e S)))))) else none) | none => none)) | none => none)))) | none => none)) else none) | none => none)) | none => none) else h Z U m n V o p a0)) | none => none) := by
  subst l; subst j; subst k; exact (Y _ _ _).trans (by kernel_rfl)
abbrev P74_8_eq (L : Rec) (hL : HL L) := QP74_8_eq L _ _ _ (hL b74_8) P74_8 (hE _) P74_22 (hE _) P74_23 (hE _)
theorem QP74_22_eq (p : Rec) (c a : ACode) (d) (f : d = F74_8 c a) (b : Rec → (Option Addr) → Int → (Option Addr) → Nat → Nat → (Option Addr) → Nat → Nat → Int → AMem → Res) (e : Eq b fun p k l m g h n i j o q => code p (.ops o74_22) (postK zl61 (loopK p c (blockK 0 (seqK (code p (.clear zl62 a) (retK [.tmp 4, .tmp 5])) (retK [.tmp 4, .tmp 5]))))) (s74_22 k l m g h n i j o q) q) (k : Option Addr) (l : Int) (m : Option Addr) (g h : Nat) (n : Option Addr) (i j : Nat) (o : Int) (q : AMem) : b p k l m g h n i j o q = d p k l m g h n i j (IntKind.wrap .i64 (o + 1)) q := by
  subst f; subst e; kernel_rfl
abbrev P74_22_eq (L : Rec) := QP74_22_eq L _ _ P74_8 (hE _) P74_22 (hE _)
theorem QP74_23_eq (i : Rec) (a : Rec → (Option Addr) → Nat → Nat → (Option Addr) → Nat → Nat → AMem → Res) (b : Eq a fun i g c d h e f j => code i (.seq (.ops o74_24) (.ret)) (retK [.tmp 4, .tmp 5]) (s74_23 g c d h e f j) j) (g : Option Addr) (c d : Nat) (h : Option Addr) (e f : Nat) (j : AMem) : a i g c d h e f j = some (.tuple #[.slice g c d, .slice h e f], j) := by
  subst b; kernel_rfl
abbrev P74_23_eq (L : Rec) := QP74_23_eq L P74_23 (hE _)
theorem QE74 (g : Rec) (b a : ACode) (c) (d : c = F74_8 b a) (e : Option Addr) (f : Int) (h : AMem) : enterF g ⟨56, [.tmp 4, .tmp 5], .seq (.ops o74_1) (.seq (.ops o74_3) (.seq (.seq (.ops o74_6) (.block 0 (.clear zl61 (.loop b)))) (.clear zl62 a)))⟩ [.pointer e, .int .i64 f] h = c g e f none 0 0 none 0 0 0 h := by
  subst d; kernel_rfl
abbrev E74 (L : Rec) (x0 : Option Addr) (x1 : Int) (M : AMem) := (Eq.refl (enterF L a74 [.pointer x0, .int .i64 x1] M)).trans (QE74 L _ _ P74_8 (hE _) x0 x1 M)
def s45_8 (c d : Option Addr) (a b : Nat) (e : Int) (f : AMem) : List Value := .pointer c :: jk 2 (.slice d a b :: .int .i64 e :: jk 25 [])
noncomputable def F45_8 (b a : ACode) (h : Rec) := fun e f c d g i => h.loop b (blockK 0 (seqK (code h (.clear zl42 a) (retK [.tmp 2])) (retK [.tmp 2]))) (s45_8 e f c d g i) i

noncomputable def P45_8 := hid (F45_8 b45_8 c45_25)
def s45_24 (c d : Option Addr) (a b : Nat) (e : Int) (f : AMem) : List Value := .pointer c :: jk 2 (.slice d a b :: .int .i64 e :: jk 25 [])
noncomputable def F45_24 (c a b : ACode) (i : Rec) := fun f g d e h j => code i a (postK zl41 (loopK i c (blockK 0 (seqK (code i (.clear zl42 b) (retK [.tmp 2])) (retK [.tmp 2]))))) (s45_24 f g d e h j) j

noncomputable def P45_24 := hid (F45_24 b45_8 c45_24 c45_25)
def s45_25 (c : Option Addr) (a b : Nat) (d : AMem) : List Value := jk 3 (.slice c a b :: jk 26 [])
noncomputable def F45_25 (a : ACode) (e : Rec) := fun d b c f => code e a (retK [.tmp 2]) (s45_25 d b c f) f

noncomputable def P45_25 := hid (F45_25 c45_25)
theorem QP45_8_eq (C : Rec) (c d a : ACode) (A : HB C c (.post (.seq (.seq (.ops o45_11) (.cond (.tmp 13) (.skip) (.exit 0))) (.seq (.block 1 (.seq (.ops o45_18) (.seq (.ops o45_20) (.cond (.tmp 24) (.ops o45_22) (.skip))))) (.clear zl41 d))) zl41)) (f) (j : f = F45_8 c a) (b) (g : b = F45_24 c d a) (e) (h : e = F45_25 a) (p v : Option Addr) (k l : Nat) (n : Int) (D : AMem) : f C p v k l n D = (match p with | some q => (Option.bind (intOf? .i64 (D.ld q.block (q.off + 1))) fun w => (if (decide (n < w)) = true then (Option.bind (C.call 74 [.pointer p, .int .i64 n] D) fun i => (Option.bind (tupOf? 2 i.1) fun m => (Option.bind (m[0]?) fun x => (Option.bind (sliceOf? (some x)) fun y => (Option.bind (m[1]?) fun z => (Option.bind (sliceOf? (some z)) fun B => (if (decide ((Int.ofNat y.2.1) > 0)) = true then (Option.bind (rowOf (i.2 ++ [AObj.cells [.int .i64 n] ⟨false, 0⟩]) 1 (.slice (some ⟨i.2.length, 0, none⟩) 1 1)) fun o => (appendK 1 8 v k l 1 o (i.2 ++ [AObj.cells [.int .i64 n] ⟨false, 0⟩]) fun r s t u => b C p r s t n u)) else b C p v k l n i.2))))))) else e C v k l D)) | none => none) := by
  subst j; subst g; subst h; exact (A _ _ _).trans (by kernel_rfl)
abbrev P45_8_eq (L : Rec) (hL : HL L) := QP45_8_eq L _ _ _ (hL b45_8) P45_8 (hE _) P45_24 (hE _) P45_25 (hE _)
theorem QP45_24_eq (l : Rec) (c a : ACode) (d) (f : d = F45_8 c a) (b : Rec → (Option Addr) → (Option Addr) → Nat → Nat → Int → AMem → Res) (e : Eq b fun l i j g h k m => code l (.ops o45_24) (postK zl41 (loopK l c (blockK 0 (seqK (code l (.clear zl42 a) (retK [.tmp 2])) (retK [.tmp 2]))))) (s45_24 i j g h k m) m) (i j : Option Addr) (g h : Nat) (k : Int) (m : AMem) : b l i j g h k m = d l i j g h (IntKind.wrap .i64 (k + 1)) m := by
  subst f; subst e; kernel_rfl
abbrev P45_24_eq (L : Rec) := QP45_24_eq L _ _ P45_8 (hE _) P45_24 (hE _)
theorem QP45_25_eq (f : Rec) (a : Rec → (Option Addr) → Nat → Nat → AMem → Res) (b : Eq a fun f e c d g => code f (.seq (.ops o45_26) (.ret)) (retK [.tmp 2]) (s45_25 e c d g) g) (e : Option Addr) (c d : Nat) (g : AMem) : a f e c d g = some (.slice e c d, g) := by
  subst b; kernel_rfl
abbrev P45_25_eq (L : Rec) := QP45_25_eq L P45_25 (hE _)
theorem QE45 (f : Rec) (b a : ACode) (c) (d : c = F45_8 b a) (e : Option Addr) (g : AMem) : enterF f ⟨30, [.tmp 2], .seq (.ops o45_1) (.seq (.ops o45_3) (.seq (.seq (.ops o45_6) (.block 0 (.clear zl41 (.loop b)))) (.clear zl42 a)))⟩ [.pointer e] g = c f e none 0 0 0 g := by
  subst d; kernel_rfl
abbrev E45 (L : Rec) (x0 : Option Addr) (M : AMem) := (Eq.refl (enterF L a45 [.pointer x0] M)).trans (QE45 L _ _ P45_8 (hE _) x0 M)
theorem E70 (k : Rec) (f : Option Addr) (j : Int) (l : AMem) : enterF k a70 [.pointer f, .int .i64 j] l = (Option.bind (k.call 74 [.pointer f, .int .i64 j] l) fun d => (Option.bind (tupOf? 2 d.1) fun a => (Option.bind (a[0]?) fun g => (Option.bind (sliceOf? (some g)) fun b => (Option.bind (a[1]?) fun h => (Option.bind (sliceOf? (some h)) fun c => (match f with | some e => (Option.bind (d.2.wr e.block (e.off + 3) [.slice c.1 c.2.1 c.2.2]) fun i => some (.slice b.1 b.2.1 b.2.2, i)) | none => none))))))) := by kernel_rfl
theorem E55 (e : Rec) (a b c d : Int) : enterF e a55 [.agg #[.int .i64 a, .int .i64 b, .int .i64 c], .int .i64 d] [] = (if (decide (a ≥ 0)) = true then (if (decide (a ≤ d)) = true then (if (decide (b ≥ 0)) = true then (if (decide (b ≤ d)) = true then (if (decide (c ≥ 0)) = true then some (.bool (decide (c ≤ d)), ([AObj.cells [.int .i64 a, .int .i64 b, .int .i64 c] ⟨false, 0⟩] : AMem)) else some (.bool false, ([AObj.cells [.int .i64 a, .int .i64 b, .int .i64 c] ⟨false, 0⟩] : AMem))) else some (.bool false, ([AObj.cells [.int .i64 a, .int .i64 b, .int .i64 c] ⟨false, 0⟩] : AMem))) else some (.bool false, ([AObj.cells [.int .i64 a, .int .i64 b, .int .i64 c] ⟨false, 0⟩] : AMem))) else some (.bool false, ([AObj.cells [.int .i64 a, .int .i64 b, .int .i64 c] ⟨false, 0⟩] : AMem))) else some (.bool false, ([AObj.cells [.int .i64 a, .int .i64 b, .int .i64 c] ⟨false, 0⟩] : AMem))) := by kernel_rfl
theorem E31 (f : Rec) (a b c : Int) : enterF f a31 [.agg #[.int .i64 a, .int .i64 b, .int .i64 c]] [] = (Option.bind (f.call 55 [.agg #[.int .i64 a, .int .i64 b, .int .i64 c], .int .i64 1099511627776] []) fun d => (Option.bind (boolOf? (some d.1)) fun e => some (.bool e, ([AObj.cells [.int .i64 a, .int .i64 b, .int .i64 c] ⟨false, 0⟩] : AMem)))) := by kernel_rfl
theorem rweight_spec (a b c : Int) : ∃ M, LL.call 31 [.agg #[.int .i64 a, .int .i64 b, .int .i64 c]] [] = some (.bool (decide (Wt a b c)), M) := by
  rw [L_call31, E31, L_call55, E55]
  refine ⟨[AObj.cells [.int .i64 a, .int .i64 b, .int .i64 c] ⟨false, 0⟩], ?_⟩
  unfold Wt
  by_cases c1 : a ≥ 0
  · by_cases c2 : a ≤ 1099511627776
    · by_cases c3 : b ≥ 0
      · by_cases c4 : b ≤ 1099511627776
        · by_cases c5 : c ≥ 0
          · by_cases c6 : c ≤ 1099511627776 <;> simp [c1, c2, c3, c4, c5, c6, show 0 ≤ a from c1, show 0 ≤ b from c3, show 0 ≤ c from c5, Option.bind]
          · simp [c1, c2, c3, c4, c5, show 0 ≤ a from c1, show 0 ≤ b from c3, show ¬ 0 ≤ c from c5, Option.bind]
        · simp [c1, c2, c3, c4, show 0 ≤ a from c1, show 0 ≤ b from c3, Option.bind]
      · simp [c1, c2, c3, show 0 ≤ a from c1, show ¬ 0 ≤ b from c3, Option.bind]
    · simp [c1, c2, show 0 ≤ a from c1, Option.bind]
  · simp [c1, show ¬ 0 ≤ a from c1, Option.bind]
structure IsDb (M : AMem) (rb o : Nat) (A B : List Value) (q : Option Addr) (qc : Nat) (p s room : Int) (es : List En) : Prop where
  md : Mid M rb o A [.int .i64 p, .int .i64 s, .int .i64 room, .slice q es.length qc] B
  sl : Slc M 4 q es.length qc (es.flatMap encE)
  ne : rb ∉ blk q
theorem IsDb.same {M M' : AMem} {S : List Nat} {rb o : Nat} {A B : List Value} {q : Option Addr} {qc : Nat} {p s room : Int} {es : List En} (h : IsDb M rb o A B q qc p s room es) (k : Same M M' S) (h1 : rb ∉ S) (h2 : ∀ x ∈ blk q, x ∉ S) : IsDb M' rb o A B q qc p s room es :=
  ⟨h.md.same k h1, h.sl.same k h2, h.ne⟩
theorem place_loop {M : AMem} {rb o : Nat} {A B : List Value} {q : Option Addr} {qc : Nat} {p s room : Int} {es : List En} (h : IsDb M rb o A B q qc p s room es) (hl : es.length ≤ 1000000) (px : Int) :
    ∀ (d i : Nat), i + d = es.length → P73_6 LL (some ⟨rb, o, none⟩) px (i : Int) M = some (.int .i64 (match pix px (es.drop i) with | some k => ((i + k : Nat) : Int) | none => -1), M) := by
  have l3 : M.ld rb (o + 3) = some (.slice q es.length qc) := h.md.ld 3 rfl
  intro d
  induction d with
  | zero =>
    intro i hi
    obtain rfl : i = es.length := by omega
    rw [P73_6_eq LL L_loop]
    simp only
    rw [bLS l3]
    simp only
    rw [ifDn (by rw [ofN]; omega), P73_23_eq, List.drop_length]
    rfl
  | succ d ih =>
    intro i hi
    have hil : i < es.length := by omega
    obtain ⟨z, rfl, hz⟩ := h.sl.pos (by omega)
    obtain ⟨l0, _⟩ := ent_ld hz.rd (gee hil)
    have hg : (0 : Int) ≤ (i : Int) ∧ (i : Int) < Int.ofNat es.length := by rw [ofN]; omega
    have hw : IntKind.wrap .i64 ((i : Int) + 1) = ((i + 1 : Nat) : Int) := by rw [w64 (by omega)]; rfl
    rw [P73_6_eq LL L_loop, List.drop_eq_getElem_cons hil]
    simp only [pix]
    rw [bLS l3]
    simp only
    rw [ifD (by rw [ofN]; omega), bLS l3]
    simp only [↓if_pos hg, Nat.zero_add, Int.toNat_natCast]
    rw [bLI l0]
    by_cases c : px = es[i].px
    · rw [if_pos c, show (es[i].px == px) = true by simp [c], ifT]; rfl
    · rw [if_neg c, show (es[i].px == px) = false by simp; exact fun e => c e.symm, ifF, P73_22_eq, hw, ih (i + 1) (by omega)]
      cases pix px (es.drop (i + 1)) with
      | none => rfl
      | some k => simp only [Option.map_some]; congr 4; omega
theorem rplace_spec {M : AMem} {rb o : Nat} {A B : List Value} {q : Option Addr} {qc : Nat} {p s room : Int} {es : List En} (h : IsDb M rb o A B q qc p s room es) (hl : es.length ≤ 1000000) (px : Int) :
    LL.call 73 [.pointer (some ⟨rb, o, none⟩), .int .i64 px] M = some (.int .i64 (match pix px es with | some k => (k : Int) | none => -1), M) := by
  rw [L_call73, E73]
  have := place_loop h hl px es.length 0 (by omega)
  rw [List.drop_zero] at this
  simp only [Nat.zero_add] at this
  exact this
theorem radd_spec {M : AMem} {rb o x3 i : Nat} {A B : List Value} {q : Option Addr} {qc : Nat} {p s room : Int} {es : List En} {e : En} {px r g bl : Int} (h : IsDb M rb o A B q qc p s room es) (he : es[i]? = some e) (hep : e.px = px) (h3 : Rd M x3 [.int .i64 px, .int .i64 r, .int .i64 g, .int .i64 bl]) (hx3 : x3 < M.length) :
    ∃ M', P44_28 LL (some ⟨rb, o, none⟩) x3 (i : Int) M = some (.bool true, M') ∧ IsDb M' rb o A B q qc p s room (es.set i (wadd e r g bl)) ∧ Same M M' (blk q) := by
  have hil := (ges.1 he).1
  obtain ⟨z, rfl, hz⟩ := h.sl.pos (by omega)
  have hqc : qc = 4 := by
    rcases h.sl.2 with ⟨e1, _⟩ | ⟨a, _, e2, _⟩
    · cases e1
    · exact e2
  have hne := h.ne
  simp at hne
  have l3 : M.ld rb (o + 3) = some (.slice (some ⟨z, 0, none⟩) es.length qc) := h.md.ld 3 rfl
  obtain ⟨l0, l1, l2, l4⟩ := ent_ld hz.rd he
  have hg : (0 : Int) ≤ (i : Int) ∧ (i : Int) < Int.ofNat es.length := by rw [ofN]; omega
  have hrb := h.md.cs.lt
  have hzl := hz.lt
  have s1 := same_app M [AObj.cells [.int .u64 0, .int .u64 0, .int .u64 0] ⟨false, 0⟩]
  have g1 := cells_new M [.int .u64 0, .int .u64 0, .int .u64 0] 0
  obtain ⟨M1, w1, w2, w3, w4⟩ := g1.wr (o := 0) (vs := [.int .u64 e.w0, .int .u64 e.w1, .int .u64 e.w2]) (by simp)
  have w2' : Cells M1 M.length [.int .u64 e.w0, .int .u64 e.w1, .int .u64 e.w2] := by simpa [wrL] using w2
  have t1 : Same M M1 [] := (s1.trans w3).mono' (fun b hb hl => by simp at hb; omega)
  have h1 := h.same t1 (by simp) (by simp)
  obtain ⟨z', ez, hz1⟩ := h1.sl.pos (by omega)
  cases ez
  have k3 : M1.ld rb (o + 3) = some (.slice (some ⟨z, 0, none⟩) es.length qc) := h1.md.ld 3 rfl
  have y := h3.same t1 (by simp)
  have y0 : M1.ld x3 0 = some (.int .i64 px) := y.ld 0
  have y1 : M1.ld x3 1 = some (.int .i64 r) := y.ld 1
  have y2 : M1.ld x3 2 = some (.int .i64 g) := y.ld 2
  have y3 : M1.ld x3 3 = some (.int .i64 bl) := y.ld 3
  have v0 : M1.ld M.length 0 = some (.int .u64 e.w0) := w2'.ld 0
  have v1 : M1.ld M.length 1 = some (.int .u64 e.w1) := w2'.ld 1
  have v2 : M1.ld M.length 2 = some (.int .u64 e.w2) := w2'.ld 2
  obtain ⟨M2, u1, u2, u3⟩ := (mid_of encE_length hz1 he).wr0 (encE (wadd e r g bl)) (by simp [encE])
  have u2' : Cells M2 z ((es.set i (wadd e r g bl)).flatMap encE) := mid_to hil (by simpa [wrL, encE] using u2)
  refine ⟨M2, ?_, ⟨?_, ?_, by simpa using hne⟩, (t1.trans u3).mono (by simp)⟩
  · rw [P44_28_eq]
    simp only
    rw [bLS l3]
    simp only [↓if_pos hg, Nat.zero_add, Int.toNat_natCast]
    rw [bLI l1, bLI l2, bLI l4, bX w1, bLS k3, bLI y0, bLI v0, bLI y1, bLI v1, bLI y2, bLI v2, bLI y3]
    simp only [↓if_pos hg, Nat.zero_add, Int.toNat_natCast]
    have u1' : AMem.wr M1 z (i * 4) [.int .i64 px, .int .u64 (IntKind.wrap .u64 (e.w0 + IntKind.wrap .u64 r)), .int .u64 (IntKind.wrap .u64 (e.w1 + IntKind.wrap .u64 g)), .int .u64 (IntKind.wrap .u64 (e.w2 + IntKind.wrap .u64 bl))] = some M2 := by rw [← hep]; exact u1
    rw [bX u1']
  · rw [List.length_set]; exact h1.md.same u3 (by simp; exact hne)
  · rw [List.length_set, hqc]; exact .of u2' (by rw [flatMap_length encE_length, List.length_set])
theorem rput_spec {M : AMem} {rb o : Nat} {A B : List Value} {q : Option Addr} {qc : Nat} {p s room : Int} {es : List En} {px r g bl : Int} (h : IsDb M rb o A B q qc p s room es) (hrm : (es.length : Int) ≤ room ∧ 1 ≤ room ∧ room ≤ 4096) (hpx : 0 ≤ px ∧ px < p) (hw : Wt r g bl) :
    ∃ M' q' qc', LL.call 44 [.pointer (some ⟨rb, o, none⟩), .agg #[.int .i64 px, .int .i64 r, .int .i64 g, .int .i64 bl]] M = some (.bool (putE room px r g bl es).isSome, M') ∧ IsDb M' rb o A B q' qc' p s room ((putE room px r g bl es).getD es) ∧ Same M M' (rb :: blk q) ∧ (∀ z ∈ blk q', z ∈ blk q ∨ M.length ≤ z) := by
  rw [L_call44, E44]
  have g0 := cells_new M [.int .i64 px, .int .i64 r, .int .i64 g, .int .i64 bl] 0
  have s0 := same_app M [AObj.cells [.int .i64 px, .int .i64 r, .int .i64 g, .int .i64 bl] ⟨false, 0⟩]
  have l0 : (M ++ [AObj.cells [.int .i64 px, .int .i64 r, .int .i64 g, .int .i64 bl] ⟨false, 0⟩]).length = M.length + 1 := by simp
  generalize M ++ [AObj.cells [.int .i64 px, .int .i64 r, .int .i64 g, .int .i64 bl] ⟨false, 0⟩] = M0 at g0 s0 l0 ⊢
  have hrb := h.md.cs.lt
  have h0 := h.same s0 (by simp) (by simp)
  have y0 : M0.ld M.length 0 = some (.int .i64 px) := g0.ld 0
  have y1 : M0.ld M.length 1 = some (.int .i64 r) := g0.ld 1
  have y2 : M0.ld M.length 2 = some (.int .i64 g) := g0.ld 2
  have y3 : M0.ld M.length 3 = some (.int .i64 bl) := g0.ld 3
  have p0 : M0.ld rb o = some (.int .i64 p) := h0.md.ld0 rfl
  have p2 : M0.ld rb (o + 2) = some (.int .i64 room) := h0.md.ld 2 rfl
  have p3 : M0.ld rb (o + 3) = some (.slice q es.length qc) := h0.md.ld 3 rfl
  obtain ⟨_, kw⟩ := rweight_spec r g bl
  have kp := rplace_spec h0 (by omega) px
  rw [bLI y0, ifDn (by omega), bLI y0]
  simp only
  rw [bLI p0, ifDn (by omega), bLI y1, bLI y2, bLI y3, bX kw, bB, decide_eq_true hw, ifNT, bLI y0, bX kp, bI]
  unfold putE
  cases hpi : pix px es with
  | some i =>
    obtain ⟨e, he, hepx⟩ := pix_some hpi
    simp only
    rw [ifDn (by omega), ifDn (by omega)]
    obtain ⟨M', a1, a2, a3⟩ := radd_spec h0 he hepx g0.rd (by omega)
    refine ⟨M', q, qc, a1, ?_, (s0.trans a3).mono (fun z hz => by simp at hz ⊢; simp [hz]), fun z hz => .inl hz⟩
    rw [Option.getD_some, List.getD_eq_getElem?_getD, he]; exact a2
  | none =>
    simp only
    rw [ifD (by omega), bLS p3]
    simp only
    rw [bLI p2]
    by_cases hfull : (es.length : Int) = room
    · rw [ifD (by rw [ofN]; omega)]
      simp only [hfull, if_true]
      exact ⟨M0, q, qc, rfl, h0, s0.mono (by simp), fun z hz => .inl hz⟩
    · rw [ifDn (by rw [ofN]; omega), ifD (by omega), bLS p3]
      simp only
      rw [bLS p3, bLI y0]
      have hrow := rowOf_new M0 4 1 (encE ⟨px, 0, 0, 0⟩) 0 4 rfl
      obtain ⟨M2, c1, c2, c3, c4⟩ := append_row (bytes := 32) (v := 0) (new := encE ⟨px, 0, 0, 0⟩) (m := 1) h0.sl rfl (by omega) (by omega)
      unfold encE at hrow c1
      simp only at hrow c1
      have md2 := h0.md.same c3 h0.ne
      obtain ⟨M3, w1, w2, w3⟩ := md2.wr 3 [.slice (some ⟨M0.length + 1, 0, none⟩) (es.length + 1) 4] (by simp)
      have hchk : chkOk [(4, 8)] [(4, rb)] [(8, (M0, M0 ++ [AObj.cells [.int .i64 px, .int .u64 0, .int .u64 0, .int .u64 0] ⟨false, 0⟩]))] = true := by
        simp [chkOk, List.lookup, ver_same (same_app M0 [AObj.cells [.int .i64 px, .int .u64 0, .int .u64 0, .int .u64 0] ⟨false, 0⟩]) (by omega : rb < M0.length) (by simp)]
      have hB : IsDb M3 rb o A B (some ⟨M0.length + 1, 0, none⟩) 4 p s room (es ++ [⟨px, 0, 0, 0⟩]) := by
        refine ⟨?_, ?_, by simp; omega⟩
        · rw [List.length_append, List.length_singleton]; simpa [wrL] using w2
        · rw [List.length_append, List.length_singleton, List.flatMap_append]
          have := c2.same w3 (by simp; omega)
          simpa [encE] using this
      have t3 : Same M0 M3 (rb :: blk q) := (c3.trans w3).mono (fun z hz => by simp at hz ⊢; rcases hz with h | h <;> simp [h])
      have hxb : M.length ∉ rb :: blk q := fun hm => by
        rcases List.mem_cons.1 hm with e | e
        · omega
        · have := h.sl.lt _ e; omega
      obtain ⟨M', e1, e2, e3⟩ := radd_spec (i := es.length) (e := ⟨px, 0, 0, 0⟩) hB (by simp) rfl (g0.rd.same t3 hxb) (by have := t3.le; omega)
      have hset : (es ++ [(⟨px, 0, 0, 0⟩ : En)]).set es.length (wadd ⟨px, 0, 0, 0⟩ r g bl) = es ++ [wadd ⟨px, 0, 0, 0⟩ r g bl] := by simp
      rw [hset] at e2
      simp only [hfull, if_false]
      refine ⟨M', _, 4, ?_, e2, (s0.trans (t3.trans e3)).mono' fun z hz hlt => ?_, fun z hz => .inr (by simp at hz; omega)⟩
      · rw [bX hrow, c1, bX w1, if_pos hchk]
        exact e1
      · simp at hz ⊢; rcases hz with h | h | h
        · simp [h]
        · simp [h]
        · omega
def inS (s st : Int) (e : En) : Bool := decide (Int.tmod e.px s = st)
def outS (s st : Int) (e : En) : Bool := !inS s st e
structure TI (M0 M : AMem) (b mp : Nat) (q : Option Addr) (qc : Nat) (p s room st : Int) (es : List En) (i : Nat) (o : Option Addr) (oc : Nat) (r : Option Addr) (rc : Nat) : Prop where
  hd : Cells M b [.int .i64 p, .int .i64 s, .int .i64 room, .map (some mp), .slice q es.length qc]
  mm : ∃ mes, M[mp]? = some (.map .i64 .i64 mes) ∧ (mes.map (·.1)).Nodup ∧ ∀ x, mget x mes = (if x ∈ (es.take i).map En.px then pix x ((es.take i).filter (outS s st)) else pix x es).map Int.ofNat
  sl : Slc M 4 q es.length qc (es.flatMap encE)
  so : Slc M 4 o ((es.take i).filter (inS s st)).length oc (((es.take i).filter (inS s st)).flatMap encE)
  sr : Slc M 4 r ((es.take i).filter (outS s st)).length rc (((es.take i).filter (outS s st)).flatMap encE)
  no : ∀ z ∈ blk o, M0.length ≤ z ∧ z ∉ blk r
  nr : ∀ z ∈ blk r, M0.length ≤ z
  same : Same M0 M [mp]
theorem pix_nil_of {x : Int} {es : List En} (h : x ∉ es.map En.px) : pix x es = none := pix_none.2 fun e he hx => h (by rw [hx]; exact List.mem_map_of_mem he)
theorem take_loop {M0 : AMem} {b mp : Nat} {q : Option Addr} {qc : Nat} {p s room st : Int} {es : List En} (h0 : IsBuf M0 b mp q qc p s room es) :
    ∀ (d i : Nat) (M : AMem) (o : Option Addr) (oc : Nat) (r : Option Addr) (rc : Nat), i + d = es.length → TI M0 M b mp q qc p s room st es i o oc r rc →
    ∃ M' o' oc' r' rc', P61_16 LL (some ⟨b, 0, none⟩) st o ((es.take i).filter (inS s st)).length oc r ((es.take i).filter (outS s st)).length rc q es.length qc (es.length : Int) (i : Int) M =
      P61_41 LL (some ⟨b, 0, none⟩) o' (es.filter (inS s st)).length oc' r' (es.filter (outS s st)).length rc' M' ∧ TI M0 M' b mp q qc p s room st es es.length o' oc' r' rc' := by
  obtain ⟨n1, n2, n3⟩ := h0.ne
  have hrm := h0.rm
  have hlt := h0.lt
  have hb : b < M0.length := hlt b (by simp [bufB])
  have hmp : mp < M0.length := hlt mp (by simp [bufB])
  intro d
  induction d with
  | zero =>
    intro i M o oc r rc hi h
    obtain rfl : i = es.length := by omega
    have h' := h
    rw [P61_16_eq LL L_loop, ifDn (by omega), List.take_length]
    exact ⟨M, o, oc, r, rc, rfl, h'⟩
  | succ d ih =>
    intro i M o oc r rc hi h
    have hil : i < es.length := by omega
    obtain ⟨e, he⟩ : ∃ e, es[i]? = some e := ⟨_, gee hil⟩
    have hem := List.mem_of_getElem? he
    have hpx := h0.px e hem
    have ht : es.take (i + 1) = es.take i ++ [e] := by rw [List.take_add_one, he]; rfl
    have hg : (0 : Int) ≤ (i : Int) ∧ (i : Int) < Int.ofNat es.length := by rw [ofN]; omega
    have hw : IntKind.wrap .i64 ((i : Int) + 1) = ((i + 1 : Nat) : Int) := by rw [w64 (by omega)]; rfl
    have hnew : e.px ∉ (es.take i).map En.px := by
      have hd : es = es.take i ++ e :: es.drop (i + 1) := by
        rw [← List.take_append_drop i es]
        congr 1
        · simp
        · rw [List.take_append_drop, List.drop_eq_getElem_cons hil]; congr 1; exact (ges.1 he).2
      have hnd := h0.nd
      rw [hd, List.map_append, List.nodup_append] at hnd
      intro hm
      exact hnd.2.2 _ hm e.px (by simp) rfl
    obtain ⟨z, rfl, hz⟩ := h.sl.pos (by omega)
    obtain ⟨l0, l1, l2, l3⟩ := ent_ld hz.rd he
    have leM := h.same.le
    have hzlt := hlt z (by simp [bufB])
    have s1 := same_app M [AObj.cells [.int .i64 0, .int .u64 0, .int .u64 0, .int .u64 0] ⟨false, 0⟩]
    have g1 := cells_new M [.int .i64 0, .int .u64 0, .int .u64 0, .int .u64 0] 0
    obtain ⟨M1, w1, w2, w3, w4⟩ := g1.wr (o := 0) (vs := encE e) (by simp [encE])
    have w2' : Cells M1 M.length (encE e) := by simpa [wrL, encE] using w2
    have hM1l : M1.length = M.length + 1 := by rw [w4]; simp
    have t1 : Same M M1 [] := (s1.trans w3).mono' (fun b hb hl => by simp at hb; omega)
    have v0 : M1.ld M.length 0 = some (.int .i64 e.px) := w2'.ld 0
    have v1 : M1.ld M.length 1 = some (.int .u64 e.w0) := w2'.ld 1
    have v2 : M1.ld M.length 2 = some (.int .u64 e.w1) := w2'.ld 2
    have v3 : M1.ld M.length 3 = some (.int .u64 e.w2) := w2'.ld 3
    have hd1 := h.hd.same t1 (by simp)
    have p0 : M1.ld b 0 = some (.int .i64 p) := hd1.ld 0
    have p1 : M1.ld b 1 = some (.int .i64 s) := hd1.ld 1
    have so1 := h.so.same t1 (by simp)
    have sr1 := h.sr.same t1 (by simp)
    have olt := h.so.lt
    have rlt := h.sr.lt
    obtain ⟨mes, m1, m2, m3⟩ := h.mm
    obtain ⟨_, ks⟩ := stripe_spec p s e.px
    have e1 : (if Rt p s ∧ 0 ≤ e.px ∧ e.px < p then Int.tmod e.px s else -1) = Int.tmod e.px s := if_pos ⟨h0.rt, hpx⟩
    rw [e1] at ks
    have hol : ((es.take i).filter (inS s st)).length ≤ es.length := Nat.le_trans (List.length_filter_le _ _) (by simp; omega)
    have hrl : ((es.take i).filter (outS s st)).length ≤ es.length := Nat.le_trans (List.length_filter_le _ _) (by simp; omega)
    have keep : ∀ x, x ≠ e.px → ((x ∈ (es.take (i + 1)).map En.px) ↔ (x ∈ (es.take i).map En.px)) := fun x hx => by
      rw [ht, List.map_append, List.mem_append]
      simp [hx]
    have hself : e.px ∈ (es.take (i + 1)).map En.px := by rw [ht]; simp
    have hnr : pix e.px ((es.take i).filter (outS s st)) = none := pix_nil_of fun hm => by
      obtain ⟨y, hy, hyx⟩ := List.mem_map.1 hm
      exact hnew (by rw [← hyx]; exact List.mem_map_of_mem (List.mem_filter.1 hy).1)
    unfold encE at w1
    rw [P61_16_eq LL L_loop, ifD (by omega)]
    simp only [↓if_pos hg, Nat.zero_add, Int.toNat_natCast]
    rw [bLI l0, bLI l1, bLI l2, bLI l3, bX w1, bLI p0, bLI p1, bLI v0, bX ks, bI]
    by_cases hin : Int.tmod e.px s = st
    · have fi : inS s st e = true := decide_eq_true hin
      have fo : outS s st e = false := by unfold outS; rw [fi]; rfl
      have hin' : (es.take (i + 1)).filter (inS s st) = (es.take i).filter (inS s st) ++ [e] := by rw [ht, List.filter_append]; simp [fi]
      have hout' : (es.take (i + 1)).filter (outS s st) = (es.take i).filter (outS s st) := by rw [ht, List.filter_append]; simp [fo]
      rw [show (Int.tmod e.px s == st) = true by simpa using hin, ifT, bLI v0, bLI v1, bLI v2, bLI v3]
      obtain ⟨M2, c1, c2, c3, c4⟩ := append_row (bytes := 32) (v := 0) (new := encE e) (m := 1) so1 rfl (by omega) (by omega)
      have hrow := rowOf_new M1 4 1 (encE e) 0 4 rfl
      unfold encE at c1 hrow
      rw [bX hrow, c1]
      have hbo : ∀ x ∈ blk o, x ≠ b ∧ x ≠ mp ∧ x ≠ z ∧ x ≠ M.length := fun x hx => by
        have := (h.no x hx).1; have := olt x hx
        exact ⟨by omega, by omega, by omega, by omega⟩
      have hd2 := hd1.same c3 (fun hx => (hbo b hx).1 rfl)
      have q3 : M2.ld b 3 = some (.map (some mp)) := hd2.ld 3
      have w22 := w2'.same c3 (fun hx => (hbo _ hx).2.2.2 rfl)
      have u0 : M2.ld M.length 0 = some (.int .i64 e.px) := w22.ld 0
      have m12 : M2[mp]? = some (.map .i64 .i64 mes) := c3.at (t1.at m1 (by simp)) (fun hx => (hbo _ hx).2.1 rfl)
      rw [bAny q3, bLI u0, bMap, bX (mp_get m12)]
      obtain ⟨M3, eM3⟩ : ∃ M3, M3 = AMem.mput M2 .i64 .i64 (some mp) (mdel e.px mes) := ⟨_, rfl⟩
      have t3 : Same M2 M3 [mp] := by rw [eM3]; exact mput_same
      have g3 : M3[mp]? = some (.map .i64 .i64 (mdel e.px mes)) := by rw [eM3]; exact mput_get m12
      rw [← eM3, P61_40_eq, hw]
      have tA : Same M M3 (blk o ++ [mp]) := ((t1.trans c3).trans t3).mono (by simp)
      have nI : TI M0 M3 b mp (some ⟨z, 0, none⟩) qc p s room st es (i + 1) (some ⟨M1.length + 1, 0, none⟩) 4 r rc := by
        refine ⟨hd2.same t3 (by simp; exact fun e => n1 e.symm), ⟨_, g3, mdel_nodup _ _ m2, fun x => ?_⟩, h.sl.same tA (fun x hx => ?_), ?_, ?_, fun x hx => ?_, h.nr, ?_⟩
        · by_cases c : x = e.px
          · rw [if_pos (by rw [c]; exact hself), hout', c, hnr, mget_self _ _ m2]; rfl
          · rw [mget_mdel _ _ _ c, m3, hout']
            congr 1
            by_cases k : x ∈ (es.take i).map En.px
            · rw [if_pos k, if_pos ((keep x c).2 k)]
            · rw [if_neg k, if_neg (fun hh => k ((keep x c).1 hh))]
        · simp only [blk_some, List.mem_singleton] at hx
          subst hx
          simp only [List.mem_append, List.mem_singleton, not_or]
          exact ⟨fun hx => (hbo _ hx).2.2.1 rfl, fun e => n3 (by simp [e])⟩
        · rw [hin', List.length_append, List.length_singleton, List.flatMap_append]
          have := c2.same t3 (by simp; omega)
          simpa [encE] using this
        · rw [hout']
          refine h.sr.same tA fun x hx => ?_
          simp only [List.mem_append, List.mem_singleton, not_or]
          exact ⟨fun hxo => (h.no x hxo).2 hx, fun e => by have := h.nr x hx; omega⟩
        · simp only [blk_some, List.mem_singleton] at hx
          subst hx
          exact ⟨by omega, fun hx => by have := rlt _ hx; omega⟩
        · exact (h.same.trans tA).mono' fun x hx hl => by
            simp only [List.mem_append, List.mem_singleton] at hx
            rcases hx with hx | hx | hx
            · simp [hx]
            · have := (h.no x hx).1; omega
            · simp [hx]
      have := ih (i + 1) M3 _ 4 r rc (by omega) nI
      rw [hin', hout', List.length_append, List.length_singleton] at this
      exact this
    · have fi : inS s st e = false := decide_eq_false hin
      have fo : outS s st e = true := by unfold outS; rw [fi]; rfl
      have hin' : (es.take (i + 1)).filter (inS s st) = (es.take i).filter (inS s st) := by rw [ht, List.filter_append]; simp [fi]
      have hout' : (es.take (i + 1)).filter (outS s st) = (es.take i).filter (outS s st) ++ [e] := by rw [ht, List.filter_append]; simp [fo]
      rw [show (Int.tmod e.px s == st) = false by simpa using hin, ifF]
      have q3 : M1.ld b 3 = some (.map (some mp)) := hd1.ld 3
      have m11 : M1[mp]? = some (.map .i64 .i64 mes) := t1.at m1 (by simp)
      rw [bAny q3, bLI v0, bMap, bX (mp_get m11)]
      obtain ⟨M2, eM2⟩ : ∃ M2, M2 = AMem.mput M1 .i64 .i64 (some mp) (mset e.px (Int.ofNat ((es.take i).filter (outS s st)).length) mes) := ⟨_, rfl⟩
      have t2 : Same M1 M2 [mp] := by rw [eM2]; exact mput_same
      have g2 : M2[mp]? = some (.map .i64 .i64 (mset e.px (Int.ofNat ((es.take i).filter (outS s st)).length) mes)) := by rw [eM2]; exact mput_get m11
      have hM2l : M2.length = M1.length := by rw [eM2]; exact mput_len _ _ _ _ _
      rw [← eM2]
      have w22 := w2'.same t2 (by simp; omega)
      have u0 : M2.ld M.length 0 = some (.int .i64 e.px) := w22.ld 0
      have u1 : M2.ld M.length 1 = some (.int .u64 e.w0) := w22.ld 1
      have u2 : M2.ld M.length 2 = some (.int .u64 e.w1) := w22.ld 2
      have u3 : M2.ld M.length 3 = some (.int .u64 e.w2) := w22.ld 3
      have sr2 := sr1.same t2 (fun x hx => by simp; intro e; have := h.nr x hx; omega)
      obtain ⟨M3, c1, c2, c3, c4⟩ := append_row (bytes := 32) (v := 0) (new := encE e) (m := 1) sr2 rfl (by omega) (by omega)
      have hrow := rowOf_new M2 4 1 (encE e) 0 4 rfl
      unfold encE at c1 hrow
      rw [bLI u0, bLI u1, bLI u2, bLI u3, bX hrow, c1, P61_40_eq, hw]
      have hbr : ∀ x ∈ blk r, x ≠ b ∧ x ≠ mp ∧ x ≠ z := fun x hx => by
        have := h.nr x hx
        exact ⟨by omega, by omega, by omega⟩
      have tA : Same M M3 (mp :: blk r) := ((t1.trans t2).trans c3).mono (by simp)
      have nI : TI M0 M3 b mp (some ⟨z, 0, none⟩) qc p s room st es (i + 1) o oc (some ⟨M2.length + 1, 0, none⟩) 4 := by
        refine ⟨(hd1.same t2 (by simp; exact fun e => n1 e.symm)).same c3 (fun hx => (hbr _ hx).1 rfl), ⟨_, c3.at g2 (fun hx => (hbr _ hx).2.1 rfl), mset_nodup _ _ _ m2, fun x => ?_⟩, h.sl.same tA (fun x hx => ?_), ?_, ?_, fun x hx => ⟨(h.no x hx).1, ?_⟩, fun x hx => ?_, ?_⟩
        · rw [mget_mset]
          by_cases c : x = e.px
          · rw [if_pos c, if_pos (by rw [c]; exact hself), hout', pix_app, c, hnr]
            simp
          · rw [if_neg c, m3, hout']
            congr 1
            by_cases k : x ∈ (es.take i).map En.px
            · rw [if_pos k, if_pos ((keep x c).2 k), pix_app]
              cases pix x ((es.take i).filter (outS s st)) with
              | some g => rfl
              | none => simp [c]
            · rw [if_neg k, if_neg (fun hh => k ((keep x c).1 hh))]
        · simp only [blk_some, List.mem_singleton] at hx
          subst hx
          simp only [List.mem_cons, not_or]
          exact ⟨fun e => n3 (by simp [e]), fun hx => (hbr _ hx).2.2 rfl⟩
        · rw [hin']
          refine h.so.same tA fun x hx => ?_
          simp only [List.mem_cons, not_or]
          exact ⟨fun e => by have := (h.no x hx).1; omega, (h.no x hx).2⟩
        · rw [hout', List.length_append, List.length_singleton, List.flatMap_append]
          simpa [encE] using c2
        · simp only [blk_some, List.mem_singleton]
          intro e
          have := olt x hx; omega
        · simp only [blk_some, List.mem_singleton] at hx
          subst hx; omega
        · exact (h.same.trans tA).mono' fun x hx hl => by
            simp only [List.mem_append, List.mem_cons, List.mem_singleton, List.not_mem_nil, or_false] at hx
            rcases hx with hx | hx | hx
            · simp [hx]
            · simp [hx]
            · have := h.nr x hx; omega
      have := ih (i + 1) M3 o oc _ 4 (by omega) nI
      rw [hin', hout', List.length_append, List.length_singleton] at this
      exact this
theorem take_spec {M : AMem} {b mp : Nat} {q : Option Addr} {qc : Nat} {p s room : Int} {es : List En} (st : Int) (h : IsBuf M b mp q qc p s room es) :
    ∃ M' o oc r rc, LL.call 61 [bp b, .int .i64 st] M = some (.slice o (es.filter (inS s st)).length oc, M') ∧ IsBuf M' b mp r rc p s room (es.filter (outS s st)) ∧ Slc M' 4 o (es.filter (inS s st)).length oc ((es.filter (inS s st)).flatMap encE) ∧
      Same M M' [b, mp] ∧ (∀ z ∈ blk o, M.length ≤ z ∧ z ∉ blk r) ∧ (∀ z ∈ blk r, M.length ≤ z) := by
  rw [L_call61, E61, bX (bgiven h), bB, ifNT]
  have l4 : M.ld b 4 = some (.slice q es.length qc) := h.hd.ld 4
  obtain ⟨mes, m1, m2, m3⟩ := h.mm
  obtain ⟨n1, n2, n3⟩ := h.ne
  simp only [Nat.zero_add]
  rw [bLS l4]
  have hlt := h.lt
  have hb := hlt b (by simp [bufB])
  have hI : TI M M b mp q qc p s room st es 0 none 0 none 0 := ⟨h.hd, ⟨mes, m1, m2, fun x => by rw [m3]; simp⟩, h.sl, .nil _ _ _, .nil _ _ _, by simp, by simp, .refl _ _⟩
  obtain ⟨M1, o, oc, r, rc, e, k⟩ := take_loop h es.length 0 M none 0 none 0 (by omega) hI
  have e' : P61_16 LL (some ⟨b, 0, none⟩) st none 0 0 none 0 0 q es.length qc (Int.ofNat es.length) 0 M = _ := e
  simp only
  rw [e', P61_41_eq]
  simp only [Nat.zero_add]
  obtain ⟨M2, w1, w2, w3, w4⟩ := k.hd.wr (o := 4) (vs := [.slice r (es.filter (outS s st)).length rc]) (by simp)
  rw [bX w1]
  have leM := k.same.le
  have hso := k.so
  have hsr := k.sr
  rw [List.take_length] at hso hsr
  have hob : ∀ z ∈ blk o, z ∉ [b] := fun z hz => by have := (k.no z hz).1; simp; omega
  have hrb : ∀ z ∈ blk r, z ∉ [b] := fun z hz => by have := k.nr z hz; simp; omega
  obtain ⟨mes', k1, k2, k3⟩ := k.mm
  refine ⟨M2, o, oc, r, rc, rfl, ⟨by simpa [wrL] using w2, ⟨mes', w3.at k1 (by simpa using n1), k2, fun x => ?_⟩, hsr.same w3 hrb, ⟨n1, fun hx => hrb b hx (by simp), fun hx => ?_⟩, h.rt, ?_, fun y hy => h.px y (List.mem_filter.1 hy).1, ?_⟩, hso.same w3 hob, (k.same.trans w3).mono (by simp), k.no, k.nr⟩
  · rw [k3, List.take_length]
    by_cases c : x ∈ es.map En.px
    · rw [if_pos c]
    · rw [if_neg c, pix_nil_of c, pix_nil_of fun hm => by
        obtain ⟨y, hy, hyx⟩ := List.mem_map.1 hm
        exact c (by rw [← hyx]; exact List.mem_map_of_mem (List.mem_filter.1 hy).1)]
  · have := k.nr mp hx; have := hlt mp (by simp [bufB]); omega
  · exact (List.filter_sublist.map _).nodup h.nd
  · have := h.rm
    have := List.length_filter_le (outS s st) es
    omega
structure OI (M0 M : AMem) (s st : Int) (es : List En) (i : Nat) (a : Option Addr) (ac : Nat) (b : Option Addr) (bc : Nat) : Prop where
  t : Same M0 M []
  sa : Slc M 4 a ((es.take i).filter (inS s st)).length ac (((es.take i).filter (inS s st)).flatMap encE)
  sb : Slc M 4 b ((es.take i).filter (outS s st)).length bc (((es.take i).filter (outS s st)).flatMap encE)
  na : ∀ z ∈ blk a, M0.length ≤ z ∧ z ∉ blk b
  nb : ∀ z ∈ blk b, M0.length ≤ z
theorem of32_loop {M0 : AMem} {rb o : Nat} {A B : List Value} {q : Option Addr} {qc : Nat} {p s room : Int} {es : List En} (h : IsDb M0 rb o A B q qc p s room es) (hl : es.length ≤ 4096) (hs : 0 < s) (st : Int) :
    ∀ (d i : Nat) (M : AMem) (a : Option Addr) (ac : Nat) (b : Option Addr) (bc : Nat), i + d = es.length → OI M0 M s st es i a ac b bc →
    ∃ M' a' ac' b' bc', P74_8 LL (some ⟨rb, o, none⟩) st a ((es.take i).filter (inS s st)).length ac b ((es.take i).filter (outS s st)).length bc (i : Int) M = some (.tuple #[.slice a' (es.filter (inS s st)).length ac', .slice b' (es.filter (outS s st)).length bc'], M') ∧ OI M0 M' s st es es.length a' ac' b' bc' := by
  intro d
  induction d with
  | zero =>
    intro i M a ac b bc hi k
    obtain rfl : i = es.length := by omega
    have h' := h.same k.t (by simp) (by simp)
    have l3 : M.ld rb (o + 3) = some (.slice q es.length qc) := h'.md.ld 3 rfl
    refine ⟨M, a, ac, b, bc, ?_, k⟩
    rw [P74_8_eq LL L_loop]
    simp only
    rw [bLS l3]
    simp only
    rw [ifDn (by rw [ofN]; omega), P74_23_eq, List.take_length]
  | succ d ih =>
    intro i M a ac b bc hi k
    have hil : i < es.length := by omega
    have h' := h.same k.t (by simp) (by simp)
    have l3 : M.ld rb (o + 3) = some (.slice q es.length qc) := h'.md.ld 3 rfl
    have l1 : M.ld rb (o + 1) = some (.int .i64 s) := h'.md.ld 1 rfl
    obtain ⟨e, he⟩ : ∃ e, es[i]? = some e := ⟨_, gee hil⟩
    have ht : es.take (i + 1) = es.take i ++ [e] := by rw [List.take_add_one, he]; rfl
    obtain ⟨z, rfl, hz⟩ := h'.sl.pos (by omega)
    obtain ⟨v0, v1, v2, v3⟩ := ent_ld hz.rd he
    have hg : (0 : Int) ≤ (i : Int) ∧ (i : Int) < Int.ofNat es.length := by rw [ofN]; omega
    have hw : IntKind.wrap .i64 ((i : Int) + 1) = ((i + 1 : Nat) : Int) := by rw [w64 (by omega)]; rfl
    have leM := k.t.le
    have hla : ((es.take i).filter (inS s st)).length ≤ 4096 := by
      have := List.length_filter_le (inS s st) (es.take i)
      have := List.length_take_le i es
      omega
    have hlb : ((es.take i).filter (outS s st)).length ≤ 4096 := by
      have := List.length_filter_le (outS s st) (es.take i)
      have := List.length_take_le i es
      omega
    have hrow := rowOf_new M 4 1 (encE e) 0 4 rfl
    rw [P74_8_eq LL L_loop]
    simp only
    rw [bLS l3]
    simp only
    rw [ifD (by rw [ofN]; omega), bLS l3]
    simp only [↓if_pos hg, Nat.zero_add, Int.toNat_natCast]
    rw [bLI v0, bLI l1, if_neg (by omega : ¬ s = 0)]
    by_cases c : Int.tmod e.px s = st
    · have ci : inS s st e = true := decide_eq_true c
      have co : outS s st e = false := by simp [outS, ci]
      have f1 : (es.take (i + 1)).filter (inS s st) = (es.take i).filter (inS s st) ++ [e] := by rw [ht, List.filter_append, List.filter_cons, if_pos ci, List.filter_nil]
      have f2 : (es.take (i + 1)).filter (outS s st) = (es.take i).filter (outS s st) := by rw [ht, List.filter_append, List.filter_cons, if_neg (by simp [co]), List.filter_nil, List.append_nil]
      obtain ⟨M2, c1, c2, c3, c4⟩ := append_row (bytes := 32) (v := 0) (new := encE e) (m := 1) k.sa rfl (by omega) (by omega)
      unfold encE at hrow c1
      obtain ⟨M', a', ac', b', bc', e1, e2⟩ := ih (i + 1) M2 (some ⟨M.length + 1, 0, none⟩) 4 b bc (by omega) ⟨(k.t.trans c3).mono' fun x hx hlt => by
          have := (k.na x (by simpa using hx)).1; omega,
        by rw [f1, List.length_append, List.length_singleton, List.flatMap_append]; simpa using c2,
        by rw [f2]; exact k.sb.same c3 fun x hx hx' => (k.na x hx').2 hx,
        fun x hx => by
          simp at hx; subst hx
          exact ⟨by omega, fun hx => by have := k.sb.lt _ hx; omega⟩,
        k.nb⟩
      rw [f1, f2, List.length_append, List.length_singleton] at e1
      refine ⟨M', a', ac', b', bc', ?_, e2⟩
      rw [show (Int.tmod e.px s == st) = true by simp [c], ifT, bLS l3]
      simp only [↓if_pos hg, Nat.zero_add, Int.toNat_natCast]
      rw [bLI v0, bLI v1, bLI v2, bLI v3, bX hrow, c1, P74_22_eq, hw]
      exact e1
    · have ci : inS s st e = false := decide_eq_false c
      have co : outS s st e = true := by simp [outS, ci]
      have f1 : (es.take (i + 1)).filter (outS s st) = (es.take i).filter (outS s st) ++ [e] := by rw [ht, List.filter_append, List.filter_cons, if_pos co, List.filter_nil]
      have f2 : (es.take (i + 1)).filter (inS s st) = (es.take i).filter (inS s st) := by rw [ht, List.filter_append, List.filter_cons, if_neg (by simp [ci]), List.filter_nil, List.append_nil]
      obtain ⟨M2, c1, c2, c3, c4⟩ := append_row (bytes := 32) (v := 0) (new := encE e) (m := 1) k.sb rfl (by omega) (by omega)
      unfold encE at hrow c1
      obtain ⟨M', a', ac', b', bc', e1, e2⟩ := ih (i + 1) M2 a ac (some ⟨M.length + 1, 0, none⟩) 4 (by omega) ⟨(k.t.trans c3).mono' fun x hx hlt => by
          have := k.nb x (by simpa using hx); omega,
        by rw [f2]; exact k.sa.same c3 fun x hx hx' => (k.na x hx).2 hx',
        by rw [f1, List.length_append, List.length_singleton, List.flatMap_append]; simpa using c2,
        fun x hx => ⟨(k.na x hx).1, fun hx' => by
          simp at hx'; subst hx'
          have := k.sa.lt _ hx; omega⟩,
        fun x hx => by simp at hx; omega⟩
      rw [f1, f2, List.length_append, List.length_singleton] at e1
      refine ⟨M', a', ac', b', bc', ?_, e2⟩
      rw [show (Int.tmod e.px s == st) = false by simp [c], ifF, bLS l3]
      simp only [↓if_pos hg, Nat.zero_add, Int.toNat_natCast]
      rw [bLI v0, bLI v1, bLI v2, bLI v3, bX hrow, c1, P74_22_eq, hw]
      exact e1
theorem of32_spec {M : AMem} {rb o : Nat} {A B : List Value} {q : Option Addr} {qc : Nat} {p s room : Int} {es : List En} (h : IsDb M rb o A B q qc p s room es) (hl : es.length ≤ 4096) (hs : 0 < s) (st : Int) :
    ∃ M' a ac b bc, LL.call 74 [.pointer (some ⟨rb, o, none⟩), .int .i64 st] M = some (.tuple #[.slice a (es.filter (inS s st)).length ac, .slice b (es.filter (outS s st)).length bc], M') ∧ OI M M' s st es es.length a ac b bc := by
  rw [L_call74, E74]
  exact of32_loop h hl hs st es.length 0 M none 0 none 0 (by omega) ⟨.refl _ _, .nil _ _ _, .nil _ _ _, by simp, by simp⟩
theorem rtake_spec {M : AMem} {rb o : Nat} {A B : List Value} {q : Option Addr} {qc : Nat} {p s room : Int} {es : List En} (h : IsDb M rb o A B q qc p s room es) (hl : es.length ≤ 4096) (hs : 0 < s) (st : Int) :
    ∃ M' a ac b bc, LL.call 70 [.pointer (some ⟨rb, o, none⟩), .int .i64 st] M = some (.slice a (es.filter (inS s st)).length ac, M') ∧ IsDb M' rb o A B b bc p s room (es.filter (outS s st)) ∧ Slc M' 4 a (es.filter (inS s st)).length ac ((es.filter (inS s st)).flatMap encE) ∧
      Same M M' [rb] ∧ (∀ z ∈ blk a, M.length ≤ z ∧ z ∉ blk b) ∧ (∀ z ∈ blk b, M.length ≤ z) := by
  rw [L_call70, E70]
  obtain ⟨M1, a, ac, b, bc, e1, k⟩ := of32_spec h hl hs st
  have hrb := h.md.cs.lt
  have h1 := h.md.same k.t (by simp)
  obtain ⟨M2, w1, w2, w3⟩ := h1.wr 3 [.slice b (es.filter (outS s st)).length bc] (by simp)
  have ka := k.sa
  have kb := k.sb
  rw [List.take_length] at ka kb
  have na : ∀ z ∈ blk a, z ∉ [rb] := fun z hz hz' => by have := (k.na z hz).1; simp at hz'; omega
  have nb : ∀ z ∈ blk b, z ∉ [rb] := fun z hz hz' => by have := k.nb z hz; simp at hz'; omega
  refine ⟨M2, a, ac, b, bc, ?_, ⟨by simpa [wrL] using w2, kb.same w3 nb, fun hb => nb rb hb (by simp)⟩, ka.same w3 na, (k.t.trans w3).mono (by simp), k.na, k.nb⟩
  rw [bX e1, bT2, bG0, bS, bG1, bS]
  simp only
  rw [bX w1]
def strs (s : Int) (es : List En) (n : Nat) : List Int := ((List.range n).map Int.ofNat).filter fun i => !(es.filter (inS s i)).isEmpty
theorem strs_succ (s : Int) (es : List En) (n : Nat) : strs s es (n + 1) = strs s es n ++ if (es.filter (inS s n)).isEmpty then [] else [(n : Int)] := by
  unfold strs
  rw [List.range_succ, List.map_append, List.filter_append]
  congr 1
  simp only [List.map_cons, List.map_nil, List.filter_cons, List.filter_nil, ofN]
  cases (es.filter (inS s n)).isEmpty <;> rfl
theorem strs_len (s : Int) (es : List En) (n : Nat) : (strs s es n).length ≤ n := by
  unfold strs
  exact Nat.le_trans (List.length_filter_le _ _) (by simp)
theorem rstripes_loop {M0 : AMem} {rb o : Nat} {A B : List Value} {q : Option Addr} {qc : Nat} {p s room : Int} {es : List En} (h : IsDb M0 rb o A B q qc p s room es) (hl : es.length ≤ 4096) (hs : 0 < s ∧ s ≤ 1000000) :
    ∀ (d i : Nat) (M : AMem) (a : Option Addr) (ac : Nat), i + d = s.toNat → Same M0 M [] → Slc M 1 a (strs s es i).length ac (ints .i64 (strs s es i)) → (∀ z ∈ blk a, M0.length ≤ z) →
    ∃ M' a' ac', P45_8 LL (some ⟨rb, o, none⟩) a (strs s es i).length ac (i : Int) M = some (.slice a' (strs s es s.toNat).length ac', M') ∧ Same M0 M' [] ∧ Slc M' 1 a' (strs s es s.toNat).length ac' (ints .i64 (strs s es s.toNat)) ∧ (∀ z ∈ blk a', M0.length ≤ z) := by
  intro d
  induction d with
  | zero =>
    intro i M a ac hi t k hn
    obtain rfl : i = s.toNat := by omega
    have h' := h.same t (by simp) (by simp)
    have l1 : M.ld rb (o + 1) = some (.int .i64 s) := h'.md.ld 1 rfl
    refine ⟨M, a, ac, ?_, t, k, hn⟩
    rw [P45_8_eq LL L_loop]
    simp only
    rw [bLI l1, ifDn (by omega), P45_25_eq]
  | succ d ih =>
    intro i M a ac hi t k hn
    have h' := h.same t (by simp) (by simp)
    have l1 : M.ld rb (o + 1) = some (.int .i64 s) := h'.md.ld 1 rfl
    have hw : IntKind.wrap .i64 ((i : Int) + 1) = ((i + 1 : Nat) : Int) := by rw [w64 (by omega)]; rfl
    obtain ⟨M1, x, xc, y, yc, e1, kk⟩ := of32_spec h' hl hs.1 (i : Int)
    have t1 := t.trans kk.t
    have hsl := strs_len s es i
    have leM := t.le
    have le1 := kk.t.le
    have k1 := k.same kk.t (by simp)
    rw [P45_8_eq LL L_loop]
    simp only
    rw [bLI l1, ifD (by omega), bX e1, bT2, bG0, bS, bG1, bS]
    simp only
    have es1 := strs_succ s es i
    by_cases c : (es.filter (inS s i)).isEmpty = true
    · rw [if_pos c, List.append_nil] at es1
      have c0 : (es.filter (inS s i)).length = 0 := by simpa using c
      rw [ifDn (by rw [ofN]; omega), P45_24_eq, hw, ← es1]
      exact ih (i + 1) M1 a ac (by omega) (t1.mono (by simp)) (by rw [es1]; exact k1) hn
    · rw [if_neg c] at es1
      have c0 : (es.filter (inS s i)).length ≠ 0 := by simpa using c
      have hrow := rowOf_new M1 1 1 [.int .i64 (i : Int)] 0 1 rfl
      obtain ⟨M2, c1, c2, c3, c4⟩ := append_row (bytes := 8) (v := 0) (new := [.int .i64 (i : Int)]) (m := 1) k1 rfl (by omega) (by omega)
      obtain ⟨M', a', ac', r1, r2, r3, r4⟩ := ih (i + 1) M2 (some ⟨M1.length + 1, 0, none⟩) 1 (by omega) ((t1.trans c3).mono' fun z hz hlt => by
          have := hn z (by simpa using hz); omega)
        (by rw [es1, List.length_append, List.length_singleton]; simpa [ints] using c2) (by simp; omega)
      rw [es1, List.length_append, List.length_singleton] at r1
      refine ⟨M', a', ac', ?_, r2, r3, r4⟩
      rw [ifD (by rw [ofN]; omega), bX hrow, c1, P45_24_eq, hw]
      exact r1
theorem rstripes_spec {M : AMem} {rb o : Nat} {A B : List Value} {q : Option Addr} {qc : Nat} {p s room : Int} {es : List En} (h : IsDb M rb o A B q qc p s room es) (hl : es.length ≤ 4096) (hs : 0 < s ∧ s ≤ 1000000) :
    ∃ M' a ac, LL.call 45 [.pointer (some ⟨rb, o, none⟩)] M = some (.slice a (strs s es s.toNat).length ac, M') ∧ Same M M' [] ∧ Slc M' 1 a (strs s es s.toNat).length ac (ints .i64 (strs s es s.toNat)) ∧ (∀ z ∈ blk a, M.length ≤ z) := by
  rw [L_call45, E45]
  exact rstripes_loop h hl hs s.toNat 0 M none 0 (by omega) (.refl _ _) (.nil _ _ _) (by simp)
theorem E28 (c : Rec) (a b : Int) (d : AMem) : enterF c a28 [.int .i64 a, .int .i64 b] d = (if (decide (a < 0)) = true then some (.pointer none, d) else (if (decide (a > 1048576)) = true then some (.pointer none, d) else (if (decide (b < 1)) = true then some (.pointer none, d) else (if (decide (b > 65536)) = true then some (.pointer none, d) else some (.pointer (some ⟨d.length, 0, none⟩), (d ++ [AObj.cells [.int .i64 a, .int .i64 b, .func (.func 52) #[] #[], .bool true, .int .u64 0, .int .i64 0, .int .i64 0, .int .i64 0] ⟨false, 0⟩])))))) := by kernel_rfl
theorem E52 (s : Rec) (f q : Option Addr) (t : AMem) : enterF s a52 [.pointer f, .pointer q] t = (Option.bind (s.call 25 [.pointer q, .int .i64 0] t) fun g => (Option.bind (tupOf? 2 g.1) fun b => (Option.bind (b[0]?) fun m => (Option.bind (intOf? .u64 (some m)) fun n => (Option.bind (b[1]?) fun o => (Option.bind (boolOf? (some o)) fun r => (match f with | some h => (Option.bind (g.2.wr h.block (h.off + 4) [.int .u64 n]) fun p => (match f with | some i => (Option.bind (p.wr i.block (i.off + 2) [.func (.func 77) #[] #[]]) fun a => (match f with | some c => (Option.bind (intOf? .u64 (a.ld c.block (c.off + 4))) fun j => (match f with | some d => (Option.bind (intOf? .i64 (a.ld d.block d.off)) fun k => (if (decide (j ≥ (IntKind.wrap .u64 k))) = true then (match f with | some e => (Option.bind (a.wr e.block (e.off + 2) [.nilFunc]) fun l => some (.tuple #[], l)) | none => none) else some (.tuple #[], a))) | none => none)) | none => none)) | none => none)) | none => none))))))) := by kernel_rfl
theorem E77 (y : Rec) (b x : Option Addr) (z : AMem) : enterF y a77 [.pointer b, .pointer x] z = (match b with | some l => (Option.bind (intOf? .u64 (z.ld l.block (l.off + 4))) fun a => (match b with | some m => (Option.bind (intOf? .i64 (z.ld m.block (m.off + 1))) fun c => (match b with | some n => (Option.bind (intOf? .i64 (z.ld n.block n.off)) fun d => (match b with | some o => (Option.bind (intOf? .u64 (z.ld o.block (o.off + 4))) fun w => (Option.bind (y.call 79 [.pointer x, .int .i64 0, .int .u64 w, .int .u64 (IntKind.wrap .u64 (IntKind.wrap .i64 ((IntKind.wrap .i64 a) + (if (IntKind.wrap .i64 (d - (IntKind.wrap .i64 a))) < c then (IntKind.wrap .i64 (d - (IntKind.wrap .i64 a))) else c))))] z) fun e => (Option.bind (boolOf? (some e.1)) fun p => (if (!p) = true then (match b with | some f => (Option.bind (intOf? .i64 (e.2.ld f.block (f.off + 7))) fun q => (match b with | some g => (Option.bind (e.2.wr g.block (g.off + 7) [.int .i64 (IntKind.wrap .i64 (q + 1))]) fun r => (match b with | some h => (Option.bind (r.wr h.block (h.off + 2) [.func (.func 52) #[] #[]]) fun s => some (.tuple #[], s)) | none => none)) | none => none)) | none => none) else (match b with | some i => (Option.bind (e.2.wr i.block (i.off + 5) [.int .i64 (IntKind.wrap .i64 a)]) fun t => (match b with | some j => (Option.bind (t.wr j.block (j.off + 6) [.int .i64 (IntKind.wrap .i64 ((IntKind.wrap .i64 a) + (if (IntKind.wrap .i64 (d - (IntKind.wrap .i64 a))) < c then (IntKind.wrap .i64 (d - (IntKind.wrap .i64 a))) else c)))]) fun u => (match b with | some k => (Option.bind (u.wr k.block (k.off + 2) [.nilFunc]) fun v => some (.tuple #[], v)) | none => none)) | none => none)) | none => none))))) | none => none)) | none => none)) | none => none)) | none => none) := by kernel_rfl
theorem E84 (e : Rec) (b : Option Addr) (f : AMem) : enterF e a84 [.pointer b] f = (if (!(Option.isNone b)) = true then (match b with | some a => (Option.bind (anyOf? (f.ld a.block (a.off + 2))) fun c => (Option.bind (isNil 2 c) fun d => some (.bool (!d), f))) | none => none) else some (.bool false, f)) := by kernel_rfl
theorem E67 (q : Rec) (e i : Option Addr) (r : AMem) : enterF q a67 [.pointer e, .pointer i] r = (Option.bind (q.call 84 [.pointer e] r) fun d => (Option.bind (boolOf? (some d.1)) fun j => (if (!j) = true then some (.bool false, d.2) else (Option.bind (q.call 36 [.pointer i] d.2) fun a => (Option.bind (intOf? .i64 (some a.1)) fun k => (if (k == 0) = true then some (.bool false, a.2) else (match e with | some f => (Option.bind (anyOf? (a.2.ld f.block (f.off + 2))) fun l => (callK l (fun m n g => (Option.bind (q.call m (n ++ [.pointer e, .pointer i] ++ g) a.2) fun b => (Option.bind (tupOf? 0 b.1) fun o => some (.bool true, b.2)))) (fun h => (Option.bind (q.round h [.pointer e, .pointer i] a.2) fun c => (Option.bind (tupOf? 0 c.1) fun p => some (.bool true, c.2)))))) | none => none))))))) := by kernel_rfl
theorem E68 (g : Rec) (c : Option Addr) (h : AMem) : enterF g a68 [.pointer c] h = (if (!(Option.isNone c)) = true then (match c with | some a => (Option.bind (boolOf? (h.ld a.block (a.off + 3))) fun d => (if d = true then (match c with | some b => (Option.bind (anyOf? (h.ld b.block (b.off + 2))) fun e => (Option.bind (isNil 2 e) fun f => some (.bool f, h))) | none => none) else some (.bool false, h))) | none => none) else some (.bool false, h)) := by kernel_rfl
theorem E69 (l : Rec) (b : Option Addr) (m : AMem) : enterF l a69 [.pointer b] m = (Option.bind (l.call 68 [.pointer b] m) fun a => (Option.bind (boolOf? (some a.1)) fun h => (if (!h) = true then some (.tuple #[.int .i64 0, .int .i64 0, .bool false], a.2) else (match b with | some c => (Option.bind (intOf? .i64 (a.2.ld c.block (c.off + 5))) fun i => (match b with | some d => (Option.bind (intOf? .i64 (a.2.ld d.block (d.off + 6))) fun j => (match b with | some e => (Option.bind (intOf? .i64 (a.2.ld e.block (e.off + 5))) fun k => (match b with | some f => (Option.bind (intOf? .i64 (a.2.ld f.block (f.off + 6))) fun g => some (.tuple #[.int .i64 i, .int .i64 j, .bool (decide (k < g))], a.2)) | none => none)) | none => none)) | none => none)) | none => none)))) := by kernel_rfl
theorem E66 (d : Rec) (b : Option Addr) (e : AMem) : enterF d a66 [.pointer b] e = (if (Option.isNone b) = true then some (.int .i64 0, e) else (match b with | some a => (Option.bind (intOf? .i64 (e.ld a.block (a.off + 7))) fun c => some (.int .i64 c, e)) | none => none)) := by kernel_rfl
theorem E9 (b : Rec) (a : Int) (c : AMem) : enterF b a9 [.int .i64 a] c = (if (decide (a < 0)) = true then some (.pointer none, c) else (if (decide (a > 262144)) = true then some (.pointer none, c) else (if (0 : Int) ≤ a ∧ a ≤ a ∧ a ≤ 140737488355328 ∧ a * 8 ≤ 140737488355328 then some (.pointer (some ⟨(List.length (c ++ [AObj.cells (List.replicate (Int.toNat a) (.int .u64 0)) ⟨false, 0⟩])), 0, none⟩), ((c ++ [AObj.cells (List.replicate (Int.toNat a) (.int .u64 0)) ⟨false, 0⟩]) ++ [AObj.cells [.bool true, .slice (some ⟨c.length, 0, none⟩) (Int.toNat a) 1, .int .i64 0, .int .i64 0] ⟨false, 0⟩])) else none))) := by kernel_rfl
theorem E50 (n : Rec) (d : Option Addr) (e : Int) (o : AMem) : enterF n a50 [.pointer d, .int .i64 e] o = (if (Option.isNone d) = true then some (.pointer none, o) else (match d with | some f => (Option.bind (boolOf? (o.ld f.block f.off)) fun k => (if (!k) = true then some (.pointer none, o) else (match d with | some g => (Option.bind (intOf? .i64 (o.ld g.block (g.off + 2))) fun l => (match d with | some h => (Option.bind (o.wr h.block (h.off + 2) [.int .i64 (IntKind.wrap .i64 (l + 1))]) fun a => (if (decide (e < 0)) = true then some (.pointer none, a) else (match d with | some i => (Option.bind (sliceOf? (a.ld i.block (i.off + 1))) fun m => (if (decide (e ≥ (Int.ofNat m.2.1))) = true then some (.pointer none, a) else (match d with | some j => (Option.bind (sliceOf? (a.ld j.block (j.off + 1))) fun b => (match b.1 with | some c => (if (0 : Int) ≤ e ∧ e < (Int.ofNat b.2.1) then some (.pointer (some ⟨c.block, (c.off + ((Int.toNat e) * 1)), none⟩), a) else none) | none => none)) | none => none))) | none => none))) | none => none)) | none => none))) | none => none)) := by kernel_rfl
theorem E25 (g : Rec) (e : Option Addr) (f : Int) (h : AMem) : enterF g a25 [.pointer e, .int .i64 f] h = (Option.bind (g.call 50 [.pointer e, .int .i64 f] h) fun a => (Option.bind (ptrOf? (some a.1)) fun b => (if (Option.isNone b) = true then some (.tuple #[.int .u64 0, .bool false], a.2) else (match b with | some c => (Option.bind (intOf? .u64 (a.2.ld c.block c.off)) fun d => some (.tuple #[.int .u64 d, .bool true], a.2)) | none => none)))) := by kernel_rfl
theorem E79 (o : Rec) (i : Option Addr) (l m n : Int) (p : AMem) : enterF o a79 [.pointer i, .int .i64 l, .int .u64 m, .int .u64 n] p = (Option.bind (o.call 50 [.pointer i, .int .i64 l] p) fun a => (Option.bind (ptrOf? (some a.1)) fun b => (if (Option.isNone b) = true then some (.bool false, a.2) else (match b with | some c => (Option.bind (intOf? .u64 (a.2.ld c.block c.off)) fun j => (if (j != m) = true then some (.bool false, a.2) else (match b with | some d => (Option.bind (a.2.wr d.block d.off [.int .u64 n]) fun e => (match i with | some f => (Option.bind (intOf? .i64 (e.ld f.block (f.off + 3))) fun k => (match i with | some g => (Option.bind (e.wr g.block (g.off + 3) [.int .i64 (IntKind.wrap .i64 (k + 1))]) fun h => some (.bool true, h)) | none => none)) | none => none)) | none => none))) | none => none)))) := by kernel_rfl
theorem E36 (d : Rec) (b : Option Addr) (e : AMem) : enterF d a36 [.pointer b] e = (if (Option.isNone b) = true then some (.int .i64 0, e) else (match b with | some a => (Option.bind (sliceOf? (e.ld a.block (a.off + 1))) fun c => some (.int .i64 (Int.ofNat c.2.1), e)) | none => none)) := by kernel_rfl
theorem E23 (d : Rec) (b : Option Addr) (e : AMem) : enterF d a23 [.pointer b] e = (if (Option.isNone b) = true then some (.int .i64 0, e) else (match b with | some a => (Option.bind (intOf? .i64 (e.ld a.block (a.off + 2))) fun c => some (.int .i64 c, e)) | none => none)) := by kernel_rfl
theorem E22 (k : Rec) (h : Option Addr) (b c : Int) (l : AMem) : enterF k a22 [.pointer h, .int .i64 b, .int .i64 c] l = (Option.bind (k.call 36 [.pointer h] l) fun d => (Option.bind (intOf? .i64 (some d.1)) fun a => (if (decide (b < 0)) = true then some (.slice none 0 0, d.2) else (if (decide (c < 0)) = true then some (.slice none 0 0, d.2) else (if (decide (b ≥ a)) = true then some (.slice none 0 0, d.2) else (if (0 : Int) ≤ (if (IntKind.wrap .i64 (a - b)) < c then (IntKind.wrap .i64 (a - b)) else c) ∧ (if (IntKind.wrap .i64 (a - b)) < c then (IntKind.wrap .i64 (a - b)) else c) ≤ (if (IntKind.wrap .i64 (a - b)) < c then (IntKind.wrap .i64 (a - b)) else c) ∧ (if (IntKind.wrap .i64 (a - b)) < c then (IntKind.wrap .i64 (a - b)) else c) ≤ 140737488355328 ∧ (if (IntKind.wrap .i64 (a - b)) < c then (IntKind.wrap .i64 (a - b)) else c) * 8 ≤ 140737488355328 then (match h with | some g => (Option.bind (sliceOf? (AMem.ld (d.2 ++ [AObj.cells (List.replicate (Int.toNat (if (IntKind.wrap .i64 (a - b)) < c then (IntKind.wrap .i64 (a - b)) else c)) (.int .u64 0)) ⟨false, 0⟩]) g.block (g.off + 1))) fun e => (if (0 : Int) ≤ b ∧ b ≤ (Int.ofNat e.2.1) ∧ (Int.ofNat e.2.1) ≤ (Int.ofNat e.2.1) then (Option.bind (rowOf (d.2 ++ [AObj.cells (List.replicate (Int.toNat (if (IntKind.wrap .i64 (a - b)) < c then (IntKind.wrap .i64 (a - b)) else c)) (.int .u64 0)) ⟨false, 0⟩]) 1 (.slice (Option.map (fun m => (⟨m.block, m.off + ((Int.toNat b) * 1), m.spot⟩ : Addr)) e.1) (Int.toNat ((Int.ofNat e.2.1) - b)) (if e.2.2 = 1 then 1 else 0))) fun f => (copyK 1 (some ⟨d.2.length, 0, none⟩) (Int.toNat (if (IntKind.wrap .i64 (a - b)) < c then (IntKind.wrap .i64 (a - b)) else c)) (Int.toNat ((Int.ofNat e.2.1) - b)) f (d.2 ++ [AObj.cells (List.replicate (Int.toNat (if (IntKind.wrap .i64 (a - b)) < c then (IntKind.wrap .i64 (a - b)) else c)) (.int .u64 0)) ⟨false, 0⟩]) fun j i => some (.slice (some ⟨d.2.length, 0, none⟩) (Int.toNat (if (IntKind.wrap .i64 (a - b)) < c then (IntKind.wrap .i64 (a - b)) else c)) 1, i))) else none)) | none => none) else none)))))) := by kernel_rfl
abbrev pt (b : Nat) : Value := .pointer (some ⟨b, 0, none⟩)
structure IsMem (M : AMem) (b a : Nat) (L : List Int) (st wi : Nat) : Prop where
  hd : Cells M b [.bool true, .slice (some ⟨a, 0, none⟩) L.length 1, .int .i64 st, .int .i64 wi]
  cs : Cells M a (ints .u64 L)
  ne : a ≠ b
theorem IsMem.same {M M' : AMem} {S : List Nat} {b a : Nat} {L : List Int} {st wi : Nat} (h : IsMem M b a L st wi) (k : Same M M' S) (hb : b ∉ S) (ha : a ∉ S) : IsMem M' b a L st wi :=
  ⟨h.hd.same k hb, h.cs.same k ha, h.ne⟩
def inR (L : List Int) (i : Int) : Prop := 0 ≤ i ∧ i < (L.length : Int)
instance (L : List Int) (i : Int) : Decidable (inR L i) := by unfold inR; infer_instance
def getI (L : List Int) (i : Int) : Int := if inR L i then L.getD i.toNat 0 else 0
theorem at_spec {M : AMem} {b a : Nat} {L : List Int} {st wi : Nat} (h : IsMem M b a L st wi) (hst : st < 1000000000000000000) (i : Int) :
    ∃ M', LL.call 50 [pt b, .int .i64 i] M = some (.pointer (if inR L i then some ⟨a, i.toNat, none⟩ else none), M') ∧ IsMem M' b a L (st + 1) wi ∧ Same M M' [b] := by
  rw [L_call50, E50]
  obtain ⟨M', w1, w2, w3, _⟩ := h.hd.wr (o := 2) (vs := [.int .i64 ((st + 1 : Nat) : Int)]) (by simp)
  have hd' : Cells M' b [.bool true, .slice (some ⟨a, 0, none⟩) L.length 1, .int .i64 ((st + 1 : Nat) : Int), .int .i64 wi] := by simpa [wrL] using w2
  have hm : IsMem M' b a L (st + 1) wi := ⟨hd', h.cs.same w3 (by simp [h.ne]), h.ne⟩
  refine ⟨M', ?_, hm, w3⟩
  have hw : IntKind.wrap .i64 ((st : Int) + 1) = ((st + 1 : Nat) : Int) := by rw [w64 (by omega)]; rfl
  simp only [Option.isNone_some, Bool.false_eq_true, if_false, h.hd.ld, get0, get2, boolOf_bool, Option.bind_some, Bool.not_true, Nat.zero_add, intOf_int, hw, w1]
  unfold inR
  by_cases c1 : i < 0
  · simp [c1, show ¬ 0 ≤ i by omega]
  · by_cases c2 : i ≥ (L.length : Int)
    · simp [c1, hd'.ld, get1, show ¬ i < (L.length : Int) by omega, show (L.length : Int) ≤ i by omega]
    · simp [c1, hd'.ld, get1, show i < (L.length : Int) by omega, show ¬ (L.length : Int) ≤ i by omega, show 0 ≤ i by omega]
theorem ints_at {L : List Int} {i : Int} (h : inR L i) : (ints .u64 L)[i.toNat]? = some (.int .u64 (L.getD i.toNat 0)) := by
  unfold inR at h
  have : i.toNat < L.length := by omega
  rw [ints_get, gee this, List.getD_eq_getElem?_getD, gee this]
  rfl
theorem load_spec {M : AMem} {b a : Nat} {L : List Int} {st wi : Nat} (h : IsMem M b a L st wi) (hst : st < 1000000000000000000) (i : Int) :
    ∃ M', LL.call 25 [pt b, .int .i64 i] M = some (.tuple #[.int .u64 (getI L i), .bool (decide (inR L i))], M') ∧ IsMem M' b a L (st + 1) wi ∧ Same M M' [b] := by
  rw [L_call25, E25]
  obtain ⟨M', h1, h2, h3⟩ := at_spec h hst i
  refine ⟨M', ?_, h2, h3⟩
  simp only [h1, Option.bind_some, ptrOf_ptr]
  unfold getI
  by_cases c : inR L i
  · simp only [c, if_true, decide_true, Option.isNone_some, Bool.false_eq_true, if_false, h2.cs.ld, ints_at c, intOf_int, Option.bind_some]
  · simp [c]
def casB (L : List Int) (i old : Int) : Bool := decide (inR L i ∧ getI L i = old)
def casL (L : List Int) (i old to : Int) : List Int := if casB L i old then L.set i.toNat to else L
theorem wrL_ints (k : IntKind) (L : List Int) (i : Nat) (to : Int) : wrL (ints k L) i [.int k to] = ints k (L.set i to) := by
  simp [wrL, ints, List.map_set]
theorem cas_spec {M : AMem} {b a : Nat} {L : List Int} {st wi : Nat} (h : IsMem M b a L st wi) (hst : st < 1000000000000000000) (hwi : wi < 1000000000000000000) (i old to : Int) :
    ∃ M', LL.call 79 [pt b, .int .i64 i, .int .u64 old, .int .u64 to] M = some (.bool (casB L i old), M') ∧
      IsMem M' b a (casL L i old to) (st + 1) (if casB L i old then wi + 1 else wi) ∧ Same M M' [b, a] := by
  rw [L_call79, E79]
  obtain ⟨M1, h1, h2, h3⟩ := at_spec h hst i
  simp only [h1, Option.bind_some, ptrOf_ptr]
  unfold casL
  by_cases c : inR L i
  · by_cases e : L.getD i.toNat 0 = old
    · have hb : casB L i old = true := by unfold casB getI; rw [if_pos c, e]; simp [c]
      obtain ⟨M2, w1, w2, w3, _⟩ := h2.cs.wr (o := i.toNat) (vs := [.int .u64 to]) (by have := c.2; have := c.1; simp; omega)
      rw [wrL_ints] at w2
      have hd2 := h2.hd.same w3 (by have := h.ne; simp; omega)
      obtain ⟨M3, x1, x2, x3, _⟩ := hd2.wr (o := 3) (vs := [.int .i64 ((wi + 1 : Nat) : Int)]) (by simp)
      refine ⟨M3, ?_, ?_, ((h3.trans w3).trans x3).mono (by simp)⟩
      · have hw : IntKind.wrap .i64 ((wi : Int) + 1) = ((wi + 1 : Nat) : Int) := by rw [w64 (by omega)]; rfl
        simp only [c, if_true, Option.isNone_some, Bool.false_eq_true, if_false, h2.cs.ld, ints_at c, intOf_int, Option.bind_some, e, bne_self_eq_false, w1, Nat.zero_add, hd2.ld, get3, hw, x1, hb]
      · rw [hb, if_pos rfl, if_pos rfl]
        exact ⟨by simpa [wrL] using x2, w2.same x3 (by simp [h.ne]), h.ne⟩
    · have hb : casB L i old = false := by unfold casB getI; rw [if_pos c]; exact decide_eq_false fun h => e h.2
      refine ⟨M1, ?_, by rw [hb]; exact h2, h3.mono (by simp)⟩
      have : (L.getD i.toNat 0 != old) = true := by simpa using e
      simp only [c, if_true, Option.isNone_some, Bool.false_eq_true, if_false, h2.cs.ld, ints_at c, intOf_int, Option.bind_some, this, hb]
  · have hb : casB L i old = false := by unfold casB; simp [c]
    refine ⟨M1, ?_, by rw [hb]; exact h2, h3.mono (by simp)⟩
    simp [c, hb]
theorem len_spec {M : AMem} {b a : Nat} {L : List Int} {st wi : Nat} (h : IsMem M b a L st wi) : LL.call 36 [pt b] M = some (.int .i64 L.length, M) := by
  rw [L_call36, E36]
  simp [h.hd.ld]
theorem steps_spec {M : AMem} {b a : Nat} {L : List Int} {st wi : Nat} (h : IsMem M b a L st wi) : LL.call 23 [pt b] M = some (.int .i64 st, M) := by
  rw [L_call23, E23]
  simp [h.hd.ld]
theorem new_spec (n : Int) (M : AMem) (h : 0 ≤ n ∧ n ≤ 262144) :
    ∃ M' b a, LL.call 9 [.int .i64 n] M = some (pt b, M') ∧ IsMem M' b a (List.replicate n.toNat 0) 0 0 ∧ Same M M' [] ∧ M.length ≤ a ∧ M.length ≤ b ∧ a < M'.length ∧ b < M'.length := by
  rw [L_call9, E9]
  have g0 := cells_new M (List.replicate n.toNat (.int .u64 0)) 0
  have s0 := same_app M [AObj.cells (List.replicate n.toNat (.int .u64 0)) ⟨false, 0⟩]
  simp only [show ¬ n < 0 by omega, show ¬ n > 262144 by omega, decide_false, Bool.false_eq_true, if_false]
  rw [if_pos (by omega)]
  generalize hM0 : M ++ [AObj.cells (List.replicate n.toNat (.int .u64 0)) ⟨false, 0⟩] = M0 at g0 s0
  have l0 : M0.length = M.length + 1 := by rw [← hM0]; simp
  have g1 := cells_new M0 [.bool true, .slice (some ⟨M.length, 0, none⟩) n.toNat 1, .int .i64 0, .int .i64 0] 0
  have s1 := same_app M0 [AObj.cells [.bool true, .slice (some ⟨M.length, 0, none⟩) n.toNat 1, .int .i64 0, .int .i64 0] ⟨false, 0⟩]
  refine ⟨_, M0.length, M.length, rfl, ⟨by simpa using g1, ?_, by omega⟩, (s0.trans s1).mono (by simp), by omega, by omega, by simp; omega, by simp⟩
  have := g0.same s1 (by simp)
  simpa [ints] using this
def sub (L : List Int) (fr n : Int) : List Int := if fr < 0 ∨ n < 0 then [] else (L.drop fr.toNat).take n.toNat
theorem take_wrL (l cs : List Value) (h : l.length = cs.length) : wrL cs 0 l = l := by
  have hl := wrL_length cs 0 l
  refine List.ext_getElem? fun i => ?_
  by_cases hi : i < l.length
  · have := wrL_get l cs 0 (by omega) i
    rw [this]
    simp [hi]
  · rw [List.getElem?_eq_none (by omega), List.getElem?_eq_none (by omega)]
theorem cells_spec {M : AMem} {b a : Nat} {L : List Int} {st wi : Nat} (h : IsMem M b a L st wi) (hL : L.length ≤ 262144) (fr n : Int) :
    ∃ M' p c, LL.call 22 [pt b, .int .i64 fr, .int .i64 n] M = some (.slice p (sub L fr n).length c, M') ∧ Slc M' 1 p (sub L fr n).length c (ints .u64 (sub L fr n)) ∧
      Same M M' [] ∧ ∀ x ∈ blk p, M.length ≤ x := by
  rw [L_call22, E22]
  simp only [len_spec h, Option.bind_some, intOf_int]
  unfold sub
  by_cases c1 : fr < 0
  · simp only [c1, decide_true, if_true, true_or]
    exact ⟨M, none, 0, rfl, .nil _ _ _, .refl _ _, by simp⟩
  · by_cases c2 : n < 0
    · simp only [c1, c2, decide_true, decide_false, Bool.false_eq_true, if_true, if_false, or_true]
      exact ⟨M, none, 0, rfl, .nil _ _ _, .refl _ _, by simp⟩
    · by_cases c3 : fr ≥ (L.length : Int)
      · simp only [c1, c2, c3, decide_true, decide_false, Bool.false_eq_true, if_true, if_false, or_self]
        rw [List.drop_eq_nil_of_le (by omega), List.take_nil]
        exact ⟨M, none, 0, rfl, .nil _ _ _, .refl _ _, by simp⟩
      · have hw : IntKind.wrap .i64 ((L.length : Int) - fr) = (L.length : Int) - fr := w64 (by omega)
        simp only [c1, c2, c3, decide_true, decide_false, Bool.false_eq_true, if_true, if_false, or_self, hw]
        let k : Nat := min n.toNat (L.length - fr.toNat)
        have hk : (if (L.length : Int) - fr < n then (L.length : Int) - fr else n) = (k : Int) := by
          show _ = ((min n.toNat (L.length - fr.toNat) : Nat) : Int)
          split <;> omega
        have hkl : ((L.drop fr.toNat).take n.toNat).length = k := by simp [k]
        have hkle : k ≤ L.length - fr.toNat := by simp only [k]; omega
        simp only [hk]
        rw [if_pos (by omega)]
        have e1 : ((k : Int)).toNat = k := Int.toNat_natCast k
        have e2 : (Int.ofNat L.length - fr).toNat = L.length - fr.toNat := by show ((L.length : Int) - fr).toNat = _; omega
        simp only [e1, e2]
        have g0 := cells_new M (List.replicate k (.int .u64 0)) 0
        have s0 := same_app M [AObj.cells (List.replicate k (.int .u64 0)) ⟨false, 0⟩]
        generalize hM0 : M ++ [AObj.cells (List.replicate k (.int .u64 0)) ⟨false, 0⟩] = M0 at g0 s0
        have h0 := h.same s0 (by simp) (by simp)
        have hr : rowOf M0 1 (.slice (some ⟨a, 0 + fr.toNat * 1, none⟩) (L.length - fr.toNat) 1) = some (ints .u64 (L.drop fr.toNat)) := by
          rw [rowOf_some h0.cs.rd (by simp; omega)]
          rw [Nat.zero_add, Nat.mul_one, Nat.mul_one, List.take_of_length_le (by simp)]
          simp [ints]
        have hc : (0 : Int) ≤ fr ∧ fr ≤ Int.ofNat L.length ∧ Int.ofNat L.length ≤ Int.ofNat L.length := ⟨by omega, by show fr ≤ (L.length : Int); omega, Int.le_refl _⟩
        simp only [h0.hd.ld, Nat.zero_add, get1, sliceOf_slice, Option.bind_some, hc, and_self, if_true, Option.map_some, e2]
        rw [Nat.zero_add] at hr
        simp only [hr, Option.bind_some]
        rw [← hkl]
        have hmin : Nat.min (L.length - fr.toNat) k = k := by show min _ _ = k; omega
        by_cases hk0 : k = 0
        · refine ⟨M0, some ⟨M.length, 0, none⟩, 1, ?_, .of ?_ (by simp), s0, by simp⟩
          · unfold copyK
            rw [hkl, hmin, if_pos hk0]
          · have : (L.drop fr.toNat).take n.toNat = [] := List.eq_nil_of_length_eq_zero (by rw [hkl, hk0])
            rw [this]
            rw [hk0] at g0
            exact g0
        · have hv : (ints .u64 (L.drop fr.toNat)).take (k * 1) = ints .u64 ((L.drop fr.toNat).take n.toNat) := by
            unfold ints
            rw [Nat.mul_one, ← List.map_take]
            congr 1
            rw [List.take_eq_take_iff]
            simp [k]
          obtain ⟨M1, w1, w2, w3, _⟩ := g0.wr (o := 0) (vs := ints .u64 ((L.drop fr.toNat).take n.toNat)) (by rw [ints_length, hkl]; simp)
          rw [take_wrL _ _ (by rw [ints_length, hkl]; simp)] at w2
          refine ⟨M1, some ⟨M.length, 0, none⟩, 1, ?_, .of w2 (by simp), (s0.trans w3).mono' (by simp), by simp⟩
          unfold copyK
          rw [hkl, hmin, if_neg hk0]
          simp only [hv, w1, Option.bind_some]
end Go.Proofs.YtbclhglmdhojdaaGreat
namespace Go.Proofs.YtbclhglmdhojdaaGreat.Bt
open Go Go.Ax
structure CS where
  ph : Nat
  seen : Int
  fr : Int
  to : Int
  lost : Nat
def CS.init : CS := ⟨0, 0, 0, 0, 0⟩
def fnv (n : Nat) : Value := if n = 0 then .func (.func 52) #[] #[] else if n = 1 then .func (.func 77) #[] #[] else .nilFunc
theorem any_fnv (n : Nat) : anyOf? (some (fnv n)) = some (fnv n) := by
  unfold fnv
  by_cases c0 : n = 0
  · rw [if_pos c0]; rfl
  · by_cases c1 : n = 1
    · rw [if_neg c0, if_pos c1]; rfl
    · rw [if_neg c0, if_neg c1]; rfl
theorem nil_fnv (n : Nat) : isNil 2 (fnv n) = some (decide (1 < n)) := by
  unfold fnv
  by_cases c0 : n = 0
  · rw [if_pos c0, c0]; rfl
  · by_cases c1 : n = 1
    · rw [if_neg c0, if_pos c1, c1]; rfl
    · rw [if_neg c0, if_neg c1]
      show some true = _
      rw [decide_eq_true (by omega)]
def encC (all size : Int) (s : CS) : List Value := [.int .i64 all, .int .i64 size, fnv s.ph, .bool true, .int .u64 s.seen, .int .i64 s.fr, .int .i64 s.to, .int .i64 s.lost]
def encR (all size : Int) (s : CS) : List Value := [.int .i64 all, .int .i64 size, .int .i64 s.lost, .bool (decide (s.ph = 1)), .bool (decide (1 < s.ph)), .int .u64 s.seen, .int .i64 s.fr, .int .i64 s.to]
def stepS (all size cur : Int) (s : CS) : CS :=
  if s.ph = 0 then { s with seen := cur, ph := if cur ≥ all then 2 else 1 }
  else if s.ph = 1 then
    (if cur = s.seen then { s with ph := 2, fr := s.seen, to := s.seen + min size (all - s.seen) } else { s with ph := 0, lost := s.lost + 1 })
  else s
def stepL (all size : Int) (L : List Int) (s : CS) : List Int := if s.ph = 1 then casL L 0 s.seen (s.seen + min size (all - s.seen)) else L
theorem cas0 {L : List Int} (h : L ≠ []) (x : Int) : casB L 0 x = decide (getI L 0 = x) := by
  have : inR L 0 := by
    have := List.length_pos_iff.2 h
    simp [inR]; omega
  simp [casB, this]
structure CFit (all size : Int) : Prop where
  a0 : 0 ≤ all
  a1 : all ≤ 1048576
  s0 : 1 ≤ size
  s1 : size ≤ 65536
structure CS.ok (all : Int) (s : CS) : Prop where
  seen : s.ph = 1 → 0 ≤ s.seen ∧ s.seen < all
  lost : s.lost < 1000000000
theorem bnew_spec {all size : Int} (h : CFit all size) (M : AMem) : ∃ M', LL.call 28 [.int .i64 all, .int .i64 size] M = some (pt M.length, M') ∧ Cells M' M.length (encC all size .init) ∧ Same M M' [] ∧ M'.length = M.length + 1 := by
  rw [L_call28, E28]
  have := h.a0; have := h.a1; have := h.s0; have := h.s1
  simp only [show ¬ all < 0 by omega, show ¬ all > 1048576 by omega, show ¬ size < 1 by omega, show ¬ size > 65536 by omega, decide_false, Bool.false_eq_true, if_false]
  exact ⟨_, rfl, cells_new _ _ _, same_app _ _, by simp⟩
theorem bnew_none {all size : Int} (h : ¬ CFit all size) (M : AMem) : LL.call 28 [.int .i64 all, .int .i64 size] M = some (.pointer none, M) := by
  rw [L_call28, E28]
  by_cases c1 : all < 0
  · simp [c1]
  by_cases c2 : all > 1048576
  · simp [c1, c2]
  by_cases c3 : size < 1
  · simp [c1, c2, c3]
  by_cases c4 : size > 65536
  · simp [c1, c2, c3, c4]
  exact absurd ⟨by omega, by omega, by omega, by omega⟩ h
theorem under_spec {all size : Int} {s : CS} {M : AMem} {c : Nat} (h : Cells M c (encC all size s)) : LL.call 84 [pt c] M = some (.bool (decide (s.ph < 2)), M) := by
  rw [L_call84, E84]
  have h2 : (encC all size s)[2]? = some (fnv s.ph) := rfl
  simp only [Option.isNone_some, Bool.not_false, if_true, Nat.zero_add, h.ld, h2, any_fnv, nil_fnv, Option.bind_some]
  congr 3
  by_cases c : s.ph < 2
  · simp [c, show ¬ 1 < s.ph by omega]
  · simp [c, show 1 < s.ph by omega]
theorem done_spec {all size : Int} {s : CS} {M : AMem} {c : Nat} (h : Cells M c (encC all size s)) : LL.call 68 [pt c] M = some (.bool (decide (1 < s.ph)), M) := by
  rw [L_call68, E68]
  have h2 : (encC all size s)[2]? = some (fnv s.ph) := rfl
  have h3 : (encC all size s)[3]? = some (.bool true) := rfl
  simp only [Option.isNone_some, Bool.not_false, if_true, Nat.zero_add, h.ld, h2, h3, boolOf_bool, Option.bind_some, any_fnv, nil_fnv]
theorem lost_spec {all size : Int} {s : CS} {M : AMem} {c : Nat} (h : Cells M c (encC all size s)) : LL.call 66 [pt c] M = some (.int .i64 s.lost, M) := by
  rw [L_call66, E66]
  have h2 : (encC all size s)[7]? = some (.int .i64 s.lost) := rfl
  simp [h.ld, h2]
theorem range_spec {all size : Int} {s : CS} {M : AMem} {c : Nat} (h : Cells M c (encC all size s)) :
    LL.call 69 [pt c] M = some (if 1 < s.ph then .tuple #[.int .i64 s.fr, .int .i64 s.to, .bool (decide (s.fr < s.to))] else .tuple #[.int .i64 0, .int .i64 0, .bool false], M) := by
  rw [L_call69, E69]
  have h5 : (encC all size s)[5]? = some (.int .i64 s.fr) := rfl
  have h6 : (encC all size s)[6]? = some (.int .i64 s.to) := rfl
  simp only [done_spec h, Option.bind_some, boolOf_bool, Nat.zero_add, h.ld, h5, h6, intOf_int]
  by_cases c1 : 1 < s.ph
  · simp [c1]
  · simp [c1]
theorem read_spec {all size : Int} (hf : CFit all size) {s : CS} {M : AMem} {c mb ma st wi : Nat} {L : List Int} (h : Cells M c (encC all size s)) (hm : IsMem M mb ma L st wi) (hst : st < 1000000000) (hb : c ≠ mb) (ha : c ≠ ma) :
    ∃ M', LL.call 52 [pt c, pt mb] M = some (.tuple #[], M') ∧ Cells M' c (encC all size { s with seen := getI L 0, ph := if getI L 0 ≥ all then 2 else 1 }) ∧ IsMem M' mb ma L (st + 1) wi ∧ Same M M' [c, mb] := by
  rw [L_call52, E52]
  obtain ⟨M1, g1, g2, g3⟩ := load_spec hm (by omega) 0
  generalize getI L 0 = cur at g1 ⊢
  have k1 := h.same g3 (by simp [hb])
  obtain ⟨M2, w1, w2, w3, _⟩ := k1.wr (o := 4) (vs := [.int .u64 cur]) (by simp [encC])
  obtain ⟨M3, x1, x2, x3, _⟩ := w2.wr (o := 2) (vs := [.func (.func 77) #[] #[]]) (by simp [encC, wrL])
  have f2 := (g2.same w3 (by simp; omega) (by simp; omega)).same x3 (by simp; omega) (by simp; omega)
  have l4 : (wrL (wrL (encC all size s) 4 [.int .u64 cur]) 2 [.func (.func 77) #[] #[]])[4]? = some (.int .u64 cur) := rfl
  have l0 : (wrL (wrL (encC all size s) 4 [.int .u64 cur]) 2 [.func (.func 77) #[] #[]])[0]? = some (.int .i64 all) := rfl
  have hw : IntKind.wrap .u64 all = all := wu64 (by have := hf.a0; have := hf.a1; omega)
  simp only [g1, Option.bind_some, tup2, get0, get1, intOf_int, boolOf_bool, Nat.zero_add, w1, x1, x2.ld, l4, l0, hw]
  by_cases cc : cur ≥ all
  · obtain ⟨M4, y1, y2, y3, _⟩ := x2.wr (o := 2) (vs := [.nilFunc]) (by simp [encC, wrL])
    simp only [cc, decide_true, if_true, y1, Option.bind_some]
    refine ⟨M4, rfl, ?_, f2.same y3 (by simp; omega) (by simp; omega), ((g3.trans w3).trans (x3.trans y3)).mono (by simp)⟩
    simpa [encC, wrL, fnv] using y2
  · simp only [cc, decide_false, Bool.false_eq_true, if_false]
    refine ⟨M3, rfl, ?_, f2, ((g3.trans w3).trans x3).mono (by simp)⟩
    simpa [encC, wrL, fnv] using x2
theorem exch_spec {all size : Int} (hf : CFit all size) {s : CS} (hk : s.ok all) (hp : s.ph = 1) {M : AMem} {c mb ma st wi : Nat} {L : List Int} (hL : L ≠ []) (h : Cells M c (encC all size s)) (hm : IsMem M mb ma L st wi) (hst : st < 1000000000) (hwi : wi < 1000000000)
    (hb : c ≠ mb) (ha : c ≠ ma) :
    ∃ M' wi', LL.call 77 [pt c, pt mb] M = some (.tuple #[], M') ∧ Cells M' c (encC all size (stepS all size (getI L 0) s)) ∧ IsMem M' mb ma (stepL all size L s) (st + 1) wi' ∧ wi' ≤ wi + 1 ∧ Same M M' [c, mb, ma] := by
  rw [L_call77, E77]
  have l4 : (encC all size s)[4]? = some (.int .u64 s.seen) := rfl
  have l1 : (encC all size s)[1]? = some (.int .i64 size) := rfl
  have l0 : (encC all size s)[0]? = some (.int .i64 all) := rfl
  have l7 : (encC all size s)[7]? = some (.int .i64 s.lost) := rfl
  have := hf.a0; have := hf.a1; have := hf.s0; have := hf.s1; have := hk.seen hp; have := hk.lost
  have w1 : IntKind.wrap .i64 s.seen = s.seen := w64 (by omega)
  have w2 : IntKind.wrap .i64 (all - s.seen) = all - s.seen := w64 (by omega)
  have w3 : (if all - s.seen < size then all - s.seen else size) = min size (all - s.seen) := by split <;> omega
  have w4 : IntKind.wrap .i64 (s.seen + min size (all - s.seen)) = s.seen + min size (all - s.seen) := w64 (by omega)
  have w5 : IntKind.wrap .u64 (s.seen + min size (all - s.seen)) = s.seen + min size (all - s.seen) := wu64 (by omega)
  have w6 : IntKind.wrap .i64 ((s.lost : Int) + 1) = ((s.lost + 1 : Nat) : Int) := by rw [w64 (by omega)]; rfl
  obtain ⟨M1, g1, g2, g3⟩ := cas_spec hm (by omega) (by omega) 0 s.seen (s.seen + min size (all - s.seen))
  have hc := cas0 hL s.seen
  have k1 := h.same g3 (by simp; omega)
  simp only [Nat.zero_add, h.ld, l4, l1, l0, intOf_int, Option.bind_some, w1, w2, w3, w4, w5, g1, boolOf_bool, hc]
  unfold stepS stepL
  rw [if_pos hp, if_neg (show ¬ s.ph = 0 by omega), if_pos hp]
  by_cases e : getI L 0 = s.seen
  · obtain ⟨M2, x1, x2, x3, _⟩ := k1.wr (o := 5) (vs := [.int .i64 s.seen]) (by simp [encC])
    obtain ⟨M3, y1, y2, y3, _⟩ := x2.wr (o := 6) (vs := [.int .i64 (s.seen + min size (all - s.seen))]) (by simp [encC, wrL])
    obtain ⟨M4, z1, z2, z3, _⟩ := y2.wr (o := 2) (vs := [.nilFunc]) (by simp [encC, wrL])
    have f := ((g2.same x3 (by simp; omega) (by simp; omega)).same y3 (by simp; omega) (by simp; omega)).same z3 (by simp; omega) (by simp; omega)
    simp only [e, decide_true, Bool.not_true, Bool.false_eq_true, if_false, x1, y1, z1, Option.bind_some, if_true]
    refine ⟨M4, _, rfl, ?_, f, by split <;> omega, ((g3.trans x3).trans (y3.trans z3)).mono (by simp)⟩
    simpa [encC, wrL, fnv, hp] using z2
  · obtain ⟨M2, x1, x2, x3, _⟩ := k1.wr (o := 7) (vs := [.int .i64 ((s.lost + 1 : Nat) : Int)]) (by simp [encC])
    obtain ⟨M3, y1, y2, y3, _⟩ := x2.wr (o := 2) (vs := [.func (.func 52) #[] #[]]) (by simp [encC, wrL])
    have f := (g2.same x3 (by simp; omega) (by simp; omega)).same y3 (by simp; omega) (by simp; omega)
    simp only [e, decide_false, Bool.not_false, if_true, k1.ld, l7, intOf_int, Option.bind_some, w6, x1, y1, if_false]
    refine ⟨M3, _, rfl, ?_, f, by split <;> omega, ((g3.trans x3).trans y3).mono (by simp)⟩
    simpa [encC, wrL, fnv, hp] using y2
theorem bstep_spec {all size : Int} (hf : CFit all size) {s : CS} (hk : s.ok all) (hp : s.ph < 2) {M : AMem} {c mb ma st wi : Nat} {L : List Int} (hL : L ≠ []) (h : Cells M c (encC all size s)) (hm : IsMem M mb ma L st wi) (hst : st < 1000000000) (hwi : wi < 1000000000)
    (hb : c ≠ mb) (ha : c ≠ ma) :
    ∃ M' wi', LL.call 67 [pt c, pt mb] M = some (.bool true, M') ∧ Cells M' c (encC all size (stepS all size (getI L 0) s)) ∧ IsMem M' mb ma (stepL all size L s) (st + 1) wi' ∧ wi' ≤ wi + 1 ∧ Same M M' [c, mb, ma] := by
  rw [L_call67, E67]
  have l2 : (encC all size s)[2]? = some (fnv s.ph) := rfl
  have hl : ((L.length : Int) == 0) = false := by
    have := List.length_pos_iff.2 hL
    exact beq_eq_false_iff_ne.2 (by omega)
  simp only [under_spec h, Option.bind_some, boolOf_bool, hp, decide_true, Bool.not_true, Bool.false_eq_true, if_false, len_spec hm, intOf_int, hl, Nat.zero_add, h.ld, l2]
  by_cases c0 : s.ph = 0
  · obtain ⟨M1, g1, g2, g3, g4⟩ := read_spec hf h hm hst hb ha
    have hv : anyOf? (some (fnv s.ph)) = some (.func (.func 52) #[] #[]) := by rw [any_fnv, c0]; rfl
    simp only [hv, Option.bind_some, callK_func, List.nil_append, List.append_nil, g1, List.cons_append]
    refine ⟨M1, wi, rfl, ?_, ?_, by omega, g4.mono (by simp)⟩
    · unfold stepS; rw [if_pos c0]; exact g2
    · unfold stepL; rw [if_neg (by omega)]; exact g3
  · have c1 : s.ph = 1 := by omega
    obtain ⟨M1, wi', g1, g2, g3, g4, g5⟩ := exch_spec hf hk c1 hL h hm hst hwi hb ha
    have hv : anyOf? (some (fnv s.ph)) = some (.func (.func 77) #[] #[]) := by rw [any_fnv, c1]; rfl
    simp only [hv, Option.bind_some, callK_func, List.nil_append, List.append_nil, g1, List.cons_append]
    exact ⟨M1, wi', rfl, g2, g3, g4, g5⟩
end Go.Proofs.YtbclhglmdhojdaaGreat.Bt
namespace Go.Proofs.YtbclhglmdhojdaaGreat
open Go Go.Ax
def s62_14 (h : Int) (i : Option Addr) (c d j : Nat) (e : Option Addr) (a b : Nat) (f g : Int) (k : AMem) : List Value := junk :: .int .i64 h :: .slice i c d :: .pointer (some ⟨j, 0, none⟩) :: jk 2 (.pointer none :: jk 13 (.slice e a b :: .int .i64 f :: .int .i64 g :: jk 18 (.tuple #[] :: jk 11 [])))
noncomputable def F62_14 (a b : ACode) (m : Rec) := fun j k e f l g c d h i n => m.loop a (blockK 0 (seqK (code m (.clear zl53 b) (retK [.tmp 6])) (retK [.tmp 6]))) (s62_14 j k e f l g c d h i n) n

noncomputable def P62_14 := hid (F62_14 b62_14 c62_33)
def s62_32 (h : Int) (i : Option Addr) (c d j : Nat) (e : Option Addr) (a b : Nat) (f g : Int) (k : AMem) : List Value := junk :: .int .i64 h :: .slice i c d :: .pointer (some ⟨j, 0, none⟩) :: jk 2 (.pointer none :: jk 13 (.slice e a b :: .int .i64 f :: .int .i64 g :: jk 18 (.tuple #[] :: jk 11 [])))
noncomputable def F62_32 (a b c : ACode) (n : Rec) := fun k l f g m h d e i j o => code n b (postK zl50 (loopK n a (blockK 0 (seqK (code n (.clear zl53 c) (retK [.tmp 6])) (retK [.tmp 6]))))) (s62_32 k l f g m h d e i j o) o

noncomputable def P62_32 := hid (F62_32 b62_14 c62_32 c62_33)
noncomputable def k62_33 (L : Rec) : KT := retK [.tmp 6]
def s62_33 (c : Int) (d : Option Addr) (a b e : Nat) (f : AMem) : List Value := junk :: .int .i64 c :: .slice d a b :: .pointer (some ⟨e, 0, none⟩) :: jk 2 (.pointer none :: jk 34 (.tuple #[] :: jk 11 []))
noncomputable def F62_33 (a : ACode) (g : Rec) := fun d e b c f h => code g a (retK [.tmp 6]) (s62_33 d e b c f h) h

noncomputable def P62_33 := hid (F62_33 c62_33)
noncomputable def k62_43 (L : Rec) : KT := retK [.tmp 6]
def s62_43 (a : Nat) (b : AMem) : List Value := jk 9 (.pointer (some ⟨a, 0, none⟩) :: jk 43 [])
noncomputable def F62_43 (a : ACode) (c : Rec) := fun b d => code c a (retK [.tmp 6]) (s62_43 b d) d

noncomputable def P62_43 := hid (F62_43 c62_43)
def s62_39 (e d : Nat) (c : Value) (a b : Int) (f : Nat) (g : AMem) : List Value := jk 6 (.pointer none :: jk 2 (.pointer (some ⟨d, 0, none⟩) :: .pointer (some ⟨f, 0, none⟩) :: jk 29 (c :: .agg #[.int .i64 a, .int .u64 b] :: jk 11 [])))
def lo62_39 (s : LoopState) (pe : Option AExit) (x9 : Nat) (x40 : Value) : ALoop := ⟨s, pe, (jk 6 (.pointer none :: jk 2 (.pointer (some ⟨x9, 0, none⟩) :: jk 30 (x40 :: .tuple #[] :: jk 11 [])))), [41], .ops o62_40, b62_39⟩
noncomputable def F62_39 (a : ACode) (f : Rec) := fun g e d b c h i => code f a (roundK g) (s62_39 g e d b c h i) i

noncomputable def P62_39 := hid (F62_39 b62_39)
theorem QP62_14_eq (F : Rec) (a e b : ACode) (E : HB F a (.post (.seq (.ops o62_16) (.seq (.cond (.tmp 23) (.skip) (.exit 0)) (.seq (.block 1 (.seq (.ops o62_24) (.seq (.ops o62_26) (.cond (.tmp 31) (.seq (.ops o62_29) (.ret)) (.skip))))) (.clear zl50 e)))) zl50)) (f) (i : f = F62_14 a b) (g) (j : g = F62_32 a e b) (h) (k : h = F62_33 b) (v : Int) (w : Option Addr) (o p s : Nat) (q : Option Addr) (l n : Nat) (r c : Int) (G : AMem) : f F v w o p s q l n r c G = (if (decide (c < r)) = true then (match q with | some d => (if (0 : Int) ≤ c ∧ c < (Int.ofNat l) then (Option.bind (intOf? .i64 (G.ld d.block (d.off + ((Int.toNat c) * 4)))) fun x => (Option.bind (intOf? .u64 (G.ld d.block ((d.off + ((Int.toNat c) * 4)) + 1))) fun y => (Option.bind (intOf? .u64 (G.ld d.block ((d.off + ((Int.toNat c) * 4)) + 2))) fun z => (Option.bind (intOf? .u64 (G.ld d.block ((d.off + ((Int.toNat c) * 4)) + 3))) fun A => (Option.bind (AMem.wr (G ++ [AObj.cells [.int .i64 0, .int .u64 0, .int .u64 0, .int .u64 0] ⟨false, 0⟩]) G.length 0 [.int .i64 x, .int .u64 y, .int .u64 z, .int .u64 A]) fun m => (Option.bind (intOf? .i64 (m.ld s 0)) fun B => (Option.bind (intOf? .i64 (m.ld s 1)) fun C => (Option.bind (intOf? .i64 (m.ld G.length 0)) fun D => (Option.bind (F.call 29 [.agg #[.int .i64 B, .int .i64 C], .int .i64 D] []) fun t => (Option.bind (intOf? .i64 (some t.1)) fun u => (if (u != v) = true then some (.pointer none, m) else g F v w o p s q l n r c m))))))))))) else none) | none => none) else h F v w o p s G) := by
  subst i; subst j; subst k; exact (E _ _ _).trans (by kernel_rfl)
abbrev P62_14_eq (L : Rec) (hL : HL L) := QP62_14_eq L _ _ _ (hL b62_14) P62_14 (hE _) P62_32 (hE _) P62_33 (hE _)
theorem QP62_32_eq (q : Rec) (a b : ACode) (c) (g : c = F62_14 a b) (d : Rec → Int → (Option Addr) → Nat → Nat → Nat → (Option Addr) → Nat → Nat → Int → Int → AMem → Res) (h : Eq d fun q n o i j p k e f l m r => code q (.ops o62_32) (postK zl50 (loopK q a (blockK 0 (seqK (code q (.clear zl53 b) (retK [.tmp 6])) (retK [.tmp 6]))))) (s62_32 n o i j p k e f l m r) r) (n : Int) (o : Option Addr) (i j p : Nat) (k : Option Addr) (e f : Nat) (l m : Int) (r : AMem) : d q n o i j p k e f l m r = c q n o i j p k e f l (IntKind.wrap .i64 (m + 1)) r := by
  subst g; subst h; kernel_rfl
abbrev P62_32_eq (L : Rec) := QP62_32_eq L _ _ P62_14 (hE _) P62_32 (hE _)
theorem G62_33 (x : Rec) (b a : ACode) (v : Int) (w : Option Addr) (g h i : Nat) (y : AMem) : code x (.seq (.ops o62_34) (.seq (.seq (.ops o62_37) (.block 2 (.clear zl51 (.rangeFunc (.tmp 40) [41] (.ops o62_40) b)))) (.clear zl52 a))) (retK [.tmp 6]) (junk :: .int .i64 v :: .slice w g h :: .pointer (some ⟨i, 0, none⟩) :: jk 2 (.pointer none :: jk 34 (.tuple #[] :: jk 11 []))) y = (Option.bind (intOf? .i64 (y.ld i 0)) fun q => (Option.bind (intOf? .i64 (y.ld i 1)) fun r => (Option.bind (x.call 24 [.agg #[.int .i64 q, .int .i64 r]] []) fun s => (Option.bind (intOf? .i64 (some s.1)) fun c => (Option.bind (AMem.wr ((y ++ [AObj.cells [.int .i64 c, .slice none 0 0, .int .i64 0, .bool false, .int .u64 0, .int .i64 0] ⟨false, 0⟩]) ++ [AObj.cells [.pointer none] ⟨false, 0⟩]) (List.length (y ++ [AObj.cells [.int .i64 c, .slice none 0 0, .int .i64 0, .bool false, .int .u64 0, .int .i64 0] ⟨false, 0⟩])) 0 [.pointer (some ⟨y.length, 0, none⟩)]) fun e => (Option.bind (intOf? .i64 (e.ld i 0)) fun t => (Option.bind (intOf? .i64 (e.ld i 1)) fun u => (Option.bind (x.call 81 [.agg #[.int .i64 t, .int .i64 u], .int .i64 v, .slice w g h] e) fun d => (Option.bind (anyOf? (some d.1)) fun f => (funK f fun j k l => (Option.bind (x.call j (k ++ [.func (.yield d.2.length) #[] #[]] ++ l) (d.2 ++ [AObj.loop ⟨.ready, none, (jk 6 (.pointer none :: jk 2 (.pointer (some ⟨(List.length (y ++ [AObj.cells [.int .i64 c, .slice none 0 0, .int .i64 0, .bool false, .int .u64 0, .int .i64 0] ⟨false, 0⟩])), 0, none⟩) :: jk 30 (f :: .tuple #[] :: jk 11 [])))), [41], .ops o62_40, b⟩])) fun m => rangeK d.2.length m (fun n => code x a (retK [.tmp 6]) (jk 9 (.pointer (some ⟨(List.length (y ++ [AObj.cells [.int .i64 c, .slice none 0 0, .int .i64 0, .bool false, .int .u64 0, .int .i64 0] ⟨false, 0⟩])), 0, none⟩) :: jk 43 [])) n) (fun o p => (blockK 2 (seqK (code x (.clear zl52 a) (retK [.tmp 6])) (retK [.tmp 6]))) o (jk 6 (.pointer none :: jk 2 (.pointer (some ⟨(List.length (y ++ [AObj.cells [.int .i64 c, .slice none 0 0, .int .i64 0, .bool false, .int .u64 0, .int .i64 0] ⟨false, 0⟩])), 0, none⟩) :: jk 30 (f :: .tuple #[] :: jk 11 [])))) p)))))))))))) := by kernel_rfl
theorem QP62_33_eq (A : Rec) (a : Rec → Int → (Option Addr) → Nat → Nat → Nat → AMem → Res) (c : a = fun (A : Rec) (l : Int) (m : Option Addr) (d e i : Nat) (B : AMem) => code A c62_33 (k62_33 A) (s62_33 l m d e i B) B) (b : Rec → Nat → AMem → Res) (f : b = fun (A : Rec) (z : Nat) (B : AMem) => code A c62_43 (k62_43 A) (s62_43 z B) B) (l : Int) (m : Option Addr) (d e i : Nat) (B : AMem) : a A l m d e i B = (Option.bind (intOf? .i64 (B.ld i 0)) fun u => (Option.bind (intOf? .i64 (B.ld i 1)) fun v => (Option.bind (A.call 24 [.agg #[.int .i64 u, .int .i64 v]] []) fun w => (Option.bind (intOf? .i64 (some w.1)) fun g => (Option.bind (AMem.wr ((B ++ [AObj.cells [.int .i64 g, .slice none 0 0, .int .i64 0, .bool false, .int .u64 0, .int .i64 0] ⟨false, 0⟩]) ++ [AObj.cells [.pointer none] ⟨false, 0⟩]) (List.length (B ++ [AObj.cells [.int .i64 g, .slice none 0 0, .int .i64 0, .bool false, .int .u64 0, .int .i64 0] ⟨false, 0⟩])) 0 [.pointer (some ⟨B.length, 0, none⟩)]) fun j => (Option.bind (intOf? .i64 (j.ld i 0)) fun x => (Option.bind (intOf? .i64 (j.ld i 1)) fun y => (Option.bind (A.call 81 [.agg #[.int .i64 x, .int .i64 y], .int .i64 l, .slice m d e] j) fun h => (Option.bind (anyOf? (some h.1)) fun k => (funK k fun n o p => (Option.bind (A.call n (o ++ [.func (.yield h.2.length) #[] #[]] ++ p) (h.2 ++ [AObj.loop (lo62_39 .ready none (List.length (B ++ [AObj.cells [.int .i64 g, .slice none 0 0, .int .i64 0, .bool false, .int .u64 0, .int .i64 0] ⟨false, 0⟩])) k)])) fun q => rangeK h.2.length q (fun r => b A (List.length (B ++ [AObj.cells [.int .i64 g, .slice none 0 0, .int .i64 0, .bool false, .int .u64 0, .int .i64 0] ⟨false, 0⟩])) r) (fun s t => (blockK 2 (seqK (code A (.clear zl52 c62_43) (retK [.tmp 6])) (retK [.tmp 6]))) s (jk 6 (.pointer none :: jk 2 (.pointer (some ⟨(List.length (B ++ [AObj.cells [.int .i64 g, .slice none 0 0, .int .i64 0, .bool false, .int .u64 0, .int .i64 0] ⟨false, 0⟩])), 0, none⟩) :: jk 30 (k :: .tuple #[] :: jk 11 [])))) t)))))))))))) := by
  subst c; subst f; exact Eq.mp (by kernel_rfl) (G62_33 A b62_39 c62_43 l m d e i B)
theorem P62_33_eq (v : Rec) (o : Int) (p : Option Addr) (c d g : Nat) (w : AMem) : P62_33 v o p c d g w = (Option.bind (intOf? .i64 (w.ld g 0)) fun q => (Option.bind (intOf? .i64 (w.ld g 1)) fun r => (Option.bind (v.call 24 [.agg #[.int .i64 q, .int .i64 r]] []) fun s => (Option.bind (intOf? .i64 (some s.1)) fun a => (Option.bind (AMem.wr ((w ++ [AObj.cells [.int .i64 a, .slice none 0 0, .int .i64 0, .bool false, .int .u64 0, .int .i64 0] ⟨false, 0⟩]) ++ [AObj.cells [.pointer none] ⟨false, 0⟩]) (List.length (w ++ [AObj.cells [.int .i64 a, .slice none 0 0, .int .i64 0, .bool false, .int .u64 0, .int .i64 0] ⟨false, 0⟩])) 0 [.pointer (some ⟨w.length, 0, none⟩)]) fun e => (Option.bind (intOf? .i64 (e.ld g 0)) fun t => (Option.bind (intOf? .i64 (e.ld g 1)) fun u => (Option.bind (v.call 81 [.agg #[.int .i64 t, .int .i64 u], .int .i64 o, .slice p c d] e) fun b => (Option.bind (anyOf? (some b.1)) fun f => (funK f fun h i j => (Option.bind (v.call h (i ++ [.func (.yield b.2.length) #[] #[]] ++ j) (b.2 ++ [AObj.loop (lo62_39 .ready none (List.length (w ++ [AObj.cells [.int .i64 a, .slice none 0 0, .int .i64 0, .bool false, .int .u64 0, .int .i64 0] ⟨false, 0⟩])) f)])) fun k => rangeK b.2.length k (fun l => P62_43 v (List.length (w ++ [AObj.cells [.int .i64 a, .slice none 0 0, .int .i64 0, .bool false, .int .u64 0, .int .i64 0] ⟨false, 0⟩])) l) (fun m n => (blockK 2 (seqK (code v (.clear zl52 c62_43) (retK [.tmp 6])) (retK [.tmp 6]))) m (jk 6 (.pointer none :: jk 2 (.pointer (some ⟨(List.length (w ++ [AObj.cells [.int .i64 a, .slice none 0 0, .int .i64 0, .bool false, .int .u64 0, .int .i64 0] ⟨false, 0⟩])), 0, none⟩) :: jk 30 (f :: .tuple #[] :: jk 11 [])))) n)))))))))))) := QP62_33_eq v P62_33 (hE _) P62_43 (hE _) o p c d g w
theorem QP62_43_eq (e : Rec) (a : Rec → Nat → AMem → Res) (b : Eq a fun e c f => code e (.seq (.ops o62_44) (.ret)) (retK [.tmp 6]) (s62_43 c f) f) (c : Nat) (f : AMem) : a e c f = (Option.bind (ptrOf? (f.ld c 0)) fun d => some (.pointer d, f)) := by
  subst b; kernel_rfl
abbrev P62_43_eq (L : Rec) := QP62_43_eq L P62_43 (hE _)
theorem QP62_39_eq (t : Rec) (a : Rec → Nat → Nat → Value → Int → Int → Nat → AMem → Res) (b : Eq a fun t u i j c d v w => code t (.block 3 (.draw [] 0 o62_42 [(0, 6), (0, 7), (1, 6), (4, 6)])) (roundK u) (s62_39 u i j c d v w) w) (u i : Nat) (j : Value) (c d : Int) (v : Nat) (w : AMem) : a t u i j c d v w = (Option.bind (ptrOf? (w.ld i 0)) fun q => (Option.bind (ptrOf? (w.ld i 0)) fun r => (match r with | some k => (Option.bind (sliceOf? (w.ld k.block (k.off + 1))) fun l => (Option.bind (intOf? .i64 (w.ld v 0)) fun e => (Option.bind (intOf? .u64 (w.ld v 1)) fun f => (Option.bind (rowOf (w ++ [AObj.cells [.int .i64 e, .int .u64 f] ⟨false, 0⟩]) 2 (.slice (some ⟨w.length, 0, none⟩) 1 2)) fun m => (appendK 2 16 l.1 l.2.1 l.2.2 1 m (w ++ [AObj.cells [.int .i64 e, .int .u64 f] ⟨false, 0⟩]) fun s n o g => (match q with | some h => (Option.bind (g.wr h.block (h.off + 1) [.slice s n o]) fun p => (if chkOk [(0, 6), (0, 7), (1, 6), (4, 6)] [(4, k.block), (1, i), (0, i)] [(7, ((w ++ [AObj.cells [.int .i64 e, .int .u64 f] ⟨false, 0⟩]), g)), (6, (w, (w ++ [AObj.cells [.int .i64 e, .int .u64 f] ⟨false, 0⟩])))] = true then roundK u AExit.normal [] p else none)) | none => none)))))) | none => none))) := by
  subst b; kernel_rfl
abbrev P62_39_eq (L : Rec) := QP62_39_eq L P62_39 (hE _)
theorem R62_39 (l : Rec) (i : ∀ m d n, l.round m d n = roundF l m d n) (m e : Nat) (c : Value) (a b : Int) (o : AMem) (f : Option AExit) (j : o[m]? = some (.loop (lo62_39 .ready f e c))) (g : AMem) (k : AMem.wr (o ++ [AObj.cells [.int .i64 0, .int .u64 0] ⟨false, 0⟩]) o.length 0 [.int .i64 a, .int .u64 b] = some g) (h : g[m]? = some (.loop (lo62_39 .ready f e c))) : l.round m [.agg #[.int .i64 a, .int .u64 b]] o = P62_39 l m e c a b o.length (g.set m (.loop (lo62_39 .busy f e c))) := by
  rw [i, roundF_wr j rfl rfl k h (s62_39 m e c a b o.length o) (fun p => by kernel_rfl)]; exact (congrFun (congrFun (congrFun (congrFun (congrFun (congrFun (congrFun (congrFun (show P62_39 = _ from hE _) l) m) e) c) a) b) _) _).symm
theorem QE62 (o : Rec) (c d : ACode) (e) (f : e = F62_14 c d) (a b i : Int) (j : Option Addr) (g h : Nat) (p : AMem) : enterF o ⟨53, [.tmp 6], .seq (.ops o62_1) (.seq (.seq (.ops o62_4) (.cond (.tmp 19) (.seq (.ops o62_7) (.ret)) (.skip))) (.seq (.seq (.ops o62_12) (.block 0 (.clear zl50 (.loop c)))) (.clear zl53 d)))⟩ [.agg #[.int .i64 a, .int .i64 b], .int .i64 i, .slice j g h] p = (Option.bind (intOf? .i64 (AMem.ld (p ++ [AObj.cells [.int .i64 a, .int .i64 b] ⟨false, 0⟩]) p.length 0)) fun k => (Option.bind (intOf? .i64 (AMem.ld (p ++ [AObj.cells [.int .i64 a, .int .i64 b] ⟨false, 0⟩]) p.length 1)) fun l => (Option.bind (o.call 80 [.agg #[.int .i64 k, .int .i64 l], .int .i64 i] []) fun m => (Option.bind (intOf? .i64 (some m.1)) fun n => (if (decide (n < 0)) = true then some (.pointer none, (p ++ [AObj.cells [.int .i64 a, .int .i64 b] ⟨false, 0⟩])) else (if (decide ((Int.ofNat g) > 4096)) = true then some (.pointer none, (p ++ [AObj.cells [.int .i64 a, .int .i64 b] ⟨false, 0⟩])) else e o i j g h p.length j g h (Int.ofNat g) 0 (p ++ [AObj.cells [.int .i64 a, .int .i64 b] ⟨false, 0⟩]))))))) := by
  subst f; kernel_rfl
abbrev E62 (L : Rec) (x0_0 x0_1 x1 : Int) (x2 : Option Addr) (x2n x2c : Nat) (M : AMem) := (Eq.refl (enterF L a62 [.agg #[.int .i64 x0_0, .int .i64 x0_1], .int .i64 x1, .slice x2 x2n x2c] M)).trans (QE62 L _ _ P62_14 (hE _) x0_0 x0_1 x1 x2 x2n x2c M)
theorem E81 (g : Rec) (a b e : Int) (f : Option Addr) (c d : Nat) (h : AMem) : enterF g a81 [.agg #[.int .i64 a, .int .i64 b], .int .i64 e, .slice f c d] h = some (.func (.func 86) #[] #[.pointer (some ⟨h.length, 0, none⟩), .pointer (some ⟨(List.length (h ++ [AObj.cells [.int .i64 a, .int .i64 b] ⟨false, 0⟩])), 0, none⟩), .pointer (some ⟨(List.length ((h ++ [AObj.cells [.int .i64 a, .int .i64 b] ⟨false, 0⟩]) ++ [AObj.cells [.int .i64 e] ⟨false, 0⟩])), 0, none⟩)], (((h ++ [AObj.cells [.int .i64 a, .int .i64 b] ⟨false, 0⟩]) ++ [AObj.cells [.int .i64 e] ⟨false, 0⟩]) ++ [AObj.cells [.slice f c d] ⟨false, 0⟩])) := by kernel_rfl
def s86_10 (f g h : Nat) (c : Option Addr) (a b : Nat) (d e : Int) (i : AMem) : List Value := .func (.yield f) #[] #[] :: .pointer (some ⟨g, 0, none⟩) :: .pointer (some ⟨h, 0, none⟩) :: jk 13 (.slice c a b :: .int .i64 d :: .int .i64 e :: jk 31 [])
noncomputable def F86_10 (a b : ACode) (k : Rec) := fun h i j e c d f g l => k.loop a (blockK 0 (seqK (code k (.clear zl68 b) (retK [])) (retK []))) (s86_10 h i j e c d f g l) l

noncomputable def P86_10 := hid (F86_10 b86_10 c86_42)
def s86_24 (j k l m : Nat) (f : Option Addr) (d e : Nat) (g h a b c i : Int) (n : AMem) : List Value := .func (.yield j) #[] #[] :: .pointer (some ⟨k, 0, none⟩) :: .pointer (some ⟨l, 0, none⟩) :: jk 3 (.pointer (some ⟨m, 0, none⟩) :: jk 9 (.slice f d e :: .int .i64 g :: .int .i64 h :: jk 4 (.agg #[.int .u64 a, .int .u64 b, .int .u64 c] :: .int .i64 i :: jk 25 [])))
noncomputable def F86_24 (a c d b : ACode) (r : Rec) := fun n o p q j h i k l e f g m s => r.loop c (blockK 2 (blockK 1 (seqK (code r (.clear zl67 d) (postK zl67 (loopK r a (blockK 0 (seqK (code r (.clear zl68 b) (retK [])) (retK [])))))) (postK zl67 (loopK r a (blockK 0 (seqK (code r (.clear zl68 b) (retK [])) (retK [])))))))) (s86_24 n o p q j h i k l e f g m s) s

noncomputable def P86_24 := hid (F86_24 b86_10 b86_24 c86_41 c86_42)
def s86_42 (a b c : Nat) (d : AMem) : List Value := .func (.yield a) #[] #[] :: .pointer (some ⟨b, 0, none⟩) :: .pointer (some ⟨c, 0, none⟩) :: jk 47 []
noncomputable def F86_42 (a : ACode) (e : Rec) := fun b c d f => code e a (retK []) (s86_42 b c d f) f

noncomputable def P86_42 := hid (F86_42 c86_42)
def s86_40 (j k l m : Nat) (f : Option Addr) (d e : Nat) (g h a b c i : Int) (n : AMem) : List Value := .func (.yield j) #[] #[] :: .pointer (some ⟨k, 0, none⟩) :: .pointer (some ⟨l, 0, none⟩) :: jk 3 (.pointer (some ⟨m, 0, none⟩) :: jk 9 (.slice f d e :: .int .i64 g :: .int .i64 h :: jk 4 (.agg #[.int .u64 a, .int .u64 b, .int .u64 c] :: .int .i64 i :: jk 25 [])))
noncomputable def F86_40 (a c d e b : ACode) (s : Rec) := fun o p q r k i j l m f g h n t => code s d (postK zl66 (loopK s c (blockK 2 (blockK 1 (seqK (code s (.clear zl67 e) (postK zl67 (loopK s a (blockK 0 (seqK (code s (.clear zl68 b) (retK [])) (retK [])))))) (postK zl67 (loopK s a (blockK 0 (seqK (code s (.clear zl68 b) (retK [])) (retK [])))))))))) (s86_40 o p q r k i j l m f g h n t) t

noncomputable def P86_40 := hid (F86_40 b86_10 b86_24 c86_40 c86_41 c86_42)
def s86_41 (f g h : Nat) (c : Option Addr) (a b : Nat) (d e : Int) (i : AMem) : List Value := .func (.yield f) #[] #[] :: .pointer (some ⟨g, 0, none⟩) :: .pointer (some ⟨h, 0, none⟩) :: jk 13 (.slice c a b :: .int .i64 d :: .int .i64 e :: jk 31 [])
noncomputable def F86_41 (a b c : ACode) (l : Rec) := fun i j k f d e g h m => code l b (postK zl67 (loopK l a (blockK 0 (seqK (code l (.clear zl68 c) (retK [])) (retK []))))) (s86_41 i j k f d e g h m) m

noncomputable def P86_41 := hid (F86_41 b86_10 c86_41 c86_42)
theorem QP86_10_eq (C : Rec) (a e f b : ACode) (B : HB C a (.post (.seq (.ops o86_12) (.seq (.cond (.tmp 19) (.skip) (.exit 0)) (.seq (.block 1 (.seq (.ops o86_20) (.seq (.ops o86_22) (.block 2 (.clear zl66 (.loop e)))))) (.clear zl67 f)))) zl67)) (g) (j : g = F86_10 a b) (h) (k : h = F86_24 a e f b) (i) (l : i = F86_42 b) (r s t : Nat) (p : Option Addr) (m o : Nat) (q c : Int) (D : AMem) : g C r s t p m o q c D = (if (decide (c < q)) = true then (match p with | some d => (if (0 : Int) ≤ c ∧ c < (Int.ofNat m) then (Option.bind (intOf? .i64 (D.ld d.block (d.off + ((Int.toNat c) * 4)))) fun u => (Option.bind (intOf? .u64 (D.ld d.block ((d.off + ((Int.toNat c) * 4)) + 1))) fun v => (Option.bind (intOf? .u64 (D.ld d.block ((d.off + ((Int.toNat c) * 4)) + 2))) fun w => (Option.bind (intOf? .u64 (D.ld d.block ((d.off + ((Int.toNat c) * 4)) + 3))) fun x => (Option.bind (AMem.wr (D ++ [AObj.cells [.int .i64 0, .int .u64 0, .int .u64 0, .int .u64 0] ⟨false, 0⟩]) D.length 0 [.int .i64 u, .int .u64 v, .int .u64 w, .int .u64 x]) fun n => (Option.bind (intOf? .u64 (n.ld D.length 1)) fun y => (Option.bind (intOf? .u64 (n.ld D.length 2)) fun z => (Option.bind (intOf? .u64 (n.ld D.length 3)) fun A => h C r s t D.length p m o q c y z A 0 n)))))))) else none) | none => none) else i C r s t D) := by
  subst j; subst k; subst l; exact (B _ _ _).trans (by kernel_rfl)
abbrev P86_10_eq (L : Rec) (hL : HL L) := QP86_10_eq L _ _ _ _ (hL b86_10) P86_10 (hE _) P86_24 (hE _) P86_42 (hE _)
theorem QP86_24_eq (H : Rec) (a b j c d : ACode) (G : HB H b (.post (.seq (.ops o86_26) (.seq (.cond (.tmp 25) (.skip) (.exit 2)) (.seq (.block 3 (.seq (.ops o86_34) (.seq (.ops o86_36) (.cond (.tmp 41) (.ret) (.skip))))) (.clear zl66 j)))) zl66)) (k) (o : k = F86_24 a b c d) (e) (p : e = F86_40 a b j c d) (l) (q : l = F86_41 a c d) (w v y z : Nat) (r : Option Addr) (m n : Nat) (s t f g h i : Int) (I : AMem) : k H w v y z r m n s t f g h i I = (if (decide (i < 3)) = true then (if (0 : Int) ≤ i ∧ i < 3 then (Option.bind (([f, g, h] : List Int)[((Int.toNat i) * 1)]?) fun x => (if (x != 0) = true then (Option.bind (intOf? .i64 (I.ld v 0)) fun A => (Option.bind (intOf? .i64 (I.ld v 1)) fun B => (Option.bind (intOf? .i64 (I.ld z 0)) fun C => (Option.bind (H.call 26 [.agg #[.int .i64 A, .int .i64 B], .int .i64 C, .int .i64 i] []) fun D => (Option.bind (intOf? .i64 (some D.1)) fun E => (Option.bind (H.round w [.agg #[.int .i64 E, .int .u64 x]] I) fun u => (Option.bind (boolOf? (some u.1)) fun F => (if (!F) = true then some (.tuple #[], u.2) else e H w v y z r m n s t f g h i u.2)))))))) else e H w v y z r m n s t f g h i I)) else none) else l H w v y r m n s t I) := by
  subst o; subst p; subst q; exact (G _ _ _).trans (by kernel_rfl)
abbrev P86_24_eq (L : Rec) (hL : HL L) := QP86_24_eq L _ _ _ _ _ (hL b86_24) P86_24 (hE _) P86_40 (hE _) P86_41 (hE _)
theorem QP86_42_eq (m : Rec) (a : Rec → Nat → Nat → Nat → AMem → Res) (b : Eq a fun m e c f n => code m (.ops o86_42) (retK []) (s86_42 e c f n) n) (e c f : Nat) (n : AMem) : a m e c f n = (Option.bind (intOf? .i64 (n.ld c 0)) fun g => (Option.bind (intOf? .i64 (n.ld c 1)) fun h => (Option.bind (intOf? .i64 (n.ld f 0)) fun i => (Option.bind (m.call 87 [.agg #[.int .i64 g, .int .i64 h], .int .i64 i] []) fun j => (Option.bind (intOf? .i64 (some j.1)) fun k => (Option.bind (m.round e [.agg #[.int .i64 k, .int .u64 1]] n) fun d => (Option.bind (boolOf? (some d.1)) fun l => some (.tuple #[], d.2)))))))) := by
  subst b; kernel_rfl
abbrev P86_42_eq (L : Rec) := QP86_42_eq L P86_42 (hE _)
theorem QP86_40_eq (v : Rec) (a f g b : ACode) (h) (l : h = F86_24 a f g b) (i : Rec → Nat → Nat → Nat → Nat → (Option Addr) → Nat → Nat → Int → Int → Int → Int → Int → Int → AMem → Res) (m : Eq i fun v r s t u n j k o p c d e q w => code v (.ops o86_40) (postK zl66 (loopK v f (blockK 2 (blockK 1 (seqK (code v (.clear zl67 g) (postK zl67 (loopK v a (blockK 0 (seqK (code v (.clear zl68 b) (retK [])) (retK [])))))) (postK zl67 (loopK v a (blockK 0 (seqK (code v (.clear zl68 b) (retK [])) (retK [])))))))))) (s86_40 r s t u n j k o p c d e q w) w) (r s t u : Nat) (n : Option Addr) (j k : Nat) (o p c d e q : Int) (w : AMem) : i v r s t u n j k o p c d e q w = h v r s t u n j k o p c d e (IntKind.wrap .i64 (q + 1)) w := by
  subst l; subst m; kernel_rfl
abbrev P86_40_eq (L : Rec) := QP86_40_eq L _ _ _ _ P86_24 (hE _) P86_40 (hE _)
theorem QP86_41_eq (o : Rec) (a b : ACode) (c) (g : c = F86_10 a b) (d : Rec → Nat → Nat → Nat → (Option Addr) → Nat → Nat → Int → Int → AMem → Res) (h : Eq d fun o l m n i e f j k p => code o (.ops o86_41) (postK zl67 (loopK o a (blockK 0 (seqK (code o (.clear zl68 b) (retK [])) (retK []))))) (s86_41 l m n i e f j k p) p) (l m n : Nat) (i : Option Addr) (e f : Nat) (j k : Int) (p : AMem) : d o l m n i e f j k p = c o l m n i e f j (IntKind.wrap .i64 (k + 1)) p := by
  subst g; subst h; kernel_rfl
abbrev P86_41_eq (L : Rec) := QP86_41_eq L _ _ P86_10 (hE _) P86_41 (hE _)
theorem QE86 (q : Rec) (a b : ACode) (c) (d : c = F86_10 a b) (h g i p : Nat) (r : AMem) : enterF q ⟨50, [], .seq (.seq (.ops o86_2) (.cond (.tmp 15) (.ret) (.skip))) (.seq (.seq (.ops o86_8) (.block 0 (.clear zl67 (.loop a)))) (.clear zl68 b))⟩ [.func (.yield h) #[] #[], .pointer (some ⟨g, 0, none⟩), .pointer (some ⟨i, 0, none⟩), .pointer (some ⟨p, 0, none⟩)] r = (Option.bind (intOf? .i64 (r.ld g 0)) fun j => (Option.bind (intOf? .i64 (r.ld g 1)) fun k => (Option.bind (intOf? .i64 (r.ld i 0)) fun l => (Option.bind (q.call 80 [.agg #[.int .i64 j, .int .i64 k], .int .i64 l] []) fun m => (Option.bind (intOf? .i64 (some m.1)) fun n => (Option.bind (q.round h [.agg #[.int .i64 n, .int .u64 1]] r) fun e => (Option.bind (boolOf? (some e.1)) fun o => (if (!o) = true then some (.tuple #[], e.2) else (Option.bind (sliceOf? (e.2.ld p 0)) fun f => c q h g i f.1 f.2.1 f.2.2 (Int.ofNat f.2.1) 0 e.2))))))))) := by
  subst d; kernel_rfl
abbrev E86 (L : Rec) (x0 x1 x2 x3 : Nat) (M : AMem) := (Eq.refl (enterF L a86 [.func (.yield x0) #[] #[], .pointer (some ⟨x1, 0, none⟩), .pointer (some ⟨x2, 0, none⟩), .pointer (some ⟨x3, 0, none⟩)] M)).trans (QE86 L _ _ P86_10 (hE _) x0 x1 x2 x3 M)
theorem E78 (f : Rec) (c : Option Addr) (g : AMem) : enterF f a78 [.pointer c] g = (if (Option.isNone c) = true then some (.int .i64 0, g) else (match c with | some a => (Option.bind (sliceOf? (g.ld a.block (a.off + 1))) fun d => (match c with | some b => (Option.bind (intOf? .i64 (g.ld b.block (b.off + 2))) fun e => some (.int .i64 (IntKind.wrap .i64 ((Int.ofNat d.2.1) - e)), g)) | none => none)) | none => none)) := by kernel_rfl
def s59_36 (a : AMem) : List Value := jk 78 []
noncomputable def F59_36 (a : ACode) (b : Rec) := fun c => code b a (retK [.tmp 4]) (s59_36 c) c

noncomputable def P59_36 := hid (F59_36 c59_36)
theorem QP59_36_eq (c : Rec) (a : Rec → AMem → Res) (b : Eq a fun c d => code c (.seq (.ops o59_37) (.ret)) (retK [.tmp 4]) (s59_36 d) d) (d : AMem) : a c d = some (.bool true, d) := by
  subst b; kernel_rfl
abbrev P59_36_eq (L : Rec) := QP59_36_eq L P59_36 (hE _)
theorem QE59 (Y : Rec) (f : ACode) (g) (j : g = F59_36 f) (e U : Option Addr) (Z : AMem) : enterF Y ⟨78, [.tmp 4], .seq (.ops o59_1) (.seq (.seq (.draw [] 0 o59_4 [(9, 5)]) (.cond (.tmp 17) (.seq (.ops o59_7) (.ret)) (.skip))) (.seq (.draw [] 0 o59_11 [(3, 10), (7, 10), (9, 10)]) (.seq (.seq (.ops o59_14) (.cond (.tmp 32) (.seq (.ops o59_17) (.seq (.ops o59_19) (.ret))) (.skip))) (.seq (.ops o59_23) (.seq (.seq (.draw [] 0 o59_26 []) (.cond (.tmp 63) (.seq (.ops o59_29) (.seq (.ops o59_31) (.ret))) (.skip))) (.seq (.ops o59_35) (.clear zl47 f)))))))⟩ [.pointer e, .pointer U] Z = (Option.bind (Y.call 78 [.pointer e] Z) fun l => (Option.bind (intOf? .i64 (some l.1)) fun V => (if (V == 0) = true then some (.bool false, l.2) else (Option.bind (Y.call 36 [.pointer U] l.2) fun a => (Option.bind (intOf? .i64 (some a.1)) fun W => (match e with | some x => (Option.bind (intOf? .i64 (a.2.ld x.block x.off)) fun X => (if chkOk [(9, 5)] [(9, x.block)] [(5, (l.2, a.2))] = true then (if (W != X) = true then some (.bool false, a.2) else (match e with | some y => (Option.bind (sliceOf? (a.2.ld y.block (y.off + 1))) fun A => (match e with | some z => (Option.bind (intOf? .i64 (a.2.ld z.block (z.off + 2))) fun h => (match A.1 with | some b => (if (0 : Int) ≤ h ∧ h < (Int.ofNat A.2.1) then (Option.bind (intOf? .i64 (a.2.ld b.block (b.off + ((Int.toNat h) * 2)))) fun B => (Option.bind (intOf? .u64 (a.2.ld b.block ((b.off + ((Int.toNat h) * 2)) + 1))) fun C => (Option.bind (AMem.wr (a.2 ++ [AObj.cells [.int .i64 0, .int .u64 0] ⟨false, 0⟩]) a.2.length 0 [.int .i64 B, .int .u64 C]) fun i => (if chkOk [(3, 10), (7, 10), (9, 10)] [(9, b.block), (7, z.block), (3, y.block)] [(10, (a.2, (a.2 ++ [AObj.cells [.int .i64 0, .int .u64 0] ⟨false, 0⟩])))] = true then (match e with | some m => (Option.bind (boolOf? (i.ld m.block (m.off + 3))) fun D => (if (!D) = true then (Option.bind (intOf? .i64 (i.ld a.2.length 0)) fun E => (Option.bind (Y.call 25 [.pointer U, .int .i64 E] i) fun n => (Option.bind (tupOf? 2 n.1) fun k => (Option.bind (k[0]?) fun F => (Option.bind (intOf? .u64 (some F)) fun G => (Option.bind (k[1]?) fun H => (Option.bind (boolOf? (some H)) fun I => (match e with | some o => (Option.bind (n.2.wr o.block (o.off + 4) [.int .u64 G]) fun J => (match e with | some p => (Option.bind (J.wr p.block (p.off + 3) [.bool I]) fun K => some (.bool true, K)) | none => none)) | none => none)))))))) else (match e with | some q => (Option.bind (i.wr q.block (q.off + 3) [.bool false]) fun c => (Option.bind (intOf? .i64 (c.ld a.2.length 0)) fun L => (match e with | some r => (Option.bind (intOf? .u64 (c.ld r.block (r.off + 4))) fun M => (match e with | some s => (Option.bind (intOf? .u64 (c.ld s.block (s.off + 4))) fun N => (Option.bind (intOf? .u64 (c.ld a.2.length 1)) fun O => (Option.bind (Y.call 79 [.pointer U, .int .i64 L, .int .u64 M, .int .u64 (IntKind.wrap .u64 (N + O))] c) fun d => (Option.bind (boolOf? (some d.1)) fun P => (if P = true then (match e with | some t => (Option.bind (intOf? .i64 (d.2.ld t.block (t.off + 2))) fun Q => (match e with | some u => (Option.bind (d.2.wr u.block (u.off + 2) [.int .i64 (IntKind.wrap .i64 (Q + 1))]) fun R => some (.bool true, R)) | none => none)) | none => none) else (match e with | some v => (Option.bind (intOf? .i64 (d.2.ld v.block (v.off + 5))) fun S => (match e with | some w => (Option.bind (d.2.wr w.block (w.off + 5) [.int .i64 (IntKind.wrap .i64 (S + 1))]) fun T => g Y T) | none => none)) | none => none)))))) | none => none)) | none => none))) | none => none))) | none => none) else none)))) else none) | none => none)) | none => none)) | none => none)) else none)) | none => none)))))) := by
  subst j; kernel_rfl
abbrev E59 (L : Rec) (x0 x1 : Option Addr) (M : AMem) := (Eq.refl (enterF L a59 [.pointer x0, .pointer x1] M)).trans (QE59 L _ P59_36 (hE _) x0 x1 M)
theorem E60 (d : Rec) (c : Option Addr) (e : AMem) : enterF d a60 [.pointer c] e = (Option.bind (d.call 78 [.pointer c] e) fun a => (Option.bind (intOf? .i64 (some a.1)) fun b => some (.bool (b == 0), a.2))) := by kernel_rfl
theorem E57 (d : Rec) (b : Option Addr) (e : AMem) : enterF d a57 [.pointer b] e = (if (!(Option.isNone b)) = true then (match b with | some a => (Option.bind (intOf? .i64 (e.ld a.block (a.off + 2))) fun c => some (.bool (decide (c > 0)), e)) | none => none) else some (.bool false, e)) := by kernel_rfl
theorem E58 (d : Rec) (b : Option Addr) (e : AMem) : enterF d a58 [.pointer b] e = (if (Option.isNone b) = true then some (.int .i64 0, e) else (match b with | some a => (Option.bind (intOf? .i64 (e.ld a.block (a.off + 5))) fun c => some (.int .i64 c, e)) | none => none)) := by kernel_rfl
def encA (a : Int × Int) : List Value := [.int .i64 a.1, .int .u64 a.2]
theorem encA_length (a : Int × Int) : (encA a).length = 2 := rfl
structure FS where
  size : Int
  adds : List (Int × Int)
  nx : Nat
  rd : Bool
  seen : Int
  lost : Nat
structure IsFl (M : AMem) (f : Nat) (p : Option Addr) (c : Nat) (s : FS) : Prop where
  hd : Cells M f [.int .i64 s.size, .slice p s.adds.length c, .int .i64 (s.nx : Int), .bool s.rd, .int .u64 s.seen, .int .i64 (s.lost : Int)]
  ad : RdL M encA p s.adds.length s.adds
  ne : ∀ b ∈ blk p, b ≠ f
  nx : s.nx ≤ s.adds.length
  sz : s.adds.length ≤ 1000000
theorem IsFl.same {M M' : AMem} {S : List Nat} {f : Nat} {p : Option Addr} {c : Nat} {s : FS} (h : IsFl M f p c s) (k : Same M M' S) (hf : f ∉ S) (hp : ∀ b ∈ blk p, b ∉ S) : IsFl M' f p c s :=
  ⟨h.hd.same k hf, h.ad.same k hp, h.ne, h.nx, h.sz⟩
theorem IsFl.ld {M : AMem} {f : Nat} {p : Option Addr} {c : Nat} {s : FS} (h : IsFl M f p c s) : M.ld f 0 = some (.int .i64 s.size) ∧ M.ld f 1 = some (.slice p s.adds.length c) ∧ M.ld f 2 = some (.int .i64 (s.nx : Int)) ∧ M.ld f 3 = some (.bool s.rd) ∧ M.ld f 4 = some (.int .u64 s.seen) ∧ M.ld f 5 = some (.int .i64 (s.lost : Int)) :=
  ⟨h.hd.ld 0, h.hd.ld 1, h.hd.ld 2, h.hd.ld 3, h.hd.ld 4, h.hd.ld 5⟩
theorem left_spec {M : AMem} {f : Nat} {p : Option Addr} {c : Nat} {s : FS} (h : IsFl M f p c s) : LL.call 78 [pt f] M = some (.int .i64 ((s.adds.length - s.nx : Nat) : Int), M) := by
  rw [L_call78, E78]
  obtain ⟨_, h1, h2, _, _, _⟩ := h.ld
  have hn := h.nx
  have hs := h.sz
  have e : IntKind.wrap .i64 (Int.ofNat s.adds.length - (s.nx : Int)) = ((s.adds.length - s.nx : Nat) : Int) := by rw [ofN, w64 (by omega)]; omega
  simp only [Option.isNone_some, Bool.false_eq_true, if_false, Nat.zero_add, ↓bLS h1, ↓bLI h2, e]
theorem done_spec {M : AMem} {f : Nat} {p : Option Addr} {c : Nat} {s : FS} (h : IsFl M f p c s) : LL.call 60 [pt f] M = some (.bool (decide (s.adds.length = s.nx)), M) := by
  rw [L_call60, E60]
  have hn := h.nx
  rw [bX (left_spec h), bI]
  congr 3
  by_cases e : s.adds.length = s.nx
  · simp [e]
  · rw [decide_eq_false e]; simp; omega
theorem begun_spec' {M : AMem} {f : Nat} {p : Option Addr} {c : Nat} {s : FS} (h : IsFl M f p c s) : LL.call 57 [pt f] M = some (.bool (decide (0 < s.nx)), M) := by
  rw [L_call57, E57]
  obtain ⟨_, _, h2, _, _, _⟩ := h.ld
  simp only [Option.isNone_some, Bool.not_false, if_true, Nat.zero_add, ↓bLI h2]
  congr 3
  by_cases e : 0 < s.nx <;> simp [e]
theorem lost_spec {M : AMem} {f : Nat} {p : Option Addr} {c : Nat} {s : FS} (h : IsFl M f p c s) : LL.call 58 [pt f] M = some (.int .i64 (s.lost : Int), M) := by
  rw [L_call58, E58]
  obtain ⟨_, _, _, _, _, h5⟩ := h.ld
  simp only [Option.isNone_some, Bool.false_eq_true, if_false, Nat.zero_add, ↓bLI h5]
theorem add_ld {M : AMem} {a : Nat} {l : List (Int × Int)} (h : Rd M a (l.flatMap encA)) {i : Nat} {x : Int × Int} (hi : l[i]? = some x) : M.ld a (i * 2) = some (.int .i64 x.1) ∧ M.ld a (i * 2 + 1) = some (.int .u64 x.2) := by
  refine ⟨?_, ?_⟩
  · have := flat_get encA_length l i 0 x hi (by omega)
    rw [Nat.add_zero] at this
    rw [h.ld, this]; rfl
  · rw [h.ld, flat_get encA_length l i 1 x hi (by omega)]; rfl
theorem step_over {M : AMem} {f b a : Nat} {p : Option Addr} {c : Nat} {s : FS} {L : List Int} {st wi : Nat} (h : IsFl M f p c s) (hm : IsMem M b a L st wi) (ho : s.adds.length = s.nx ∨ (L.length : Int) ≠ s.size) :
    LL.call 59 [pt f, pt b] M = some (.bool false, M) := by
  rw [L_call59, E59]
  obtain ⟨h0, _⟩ := h.ld
  have hn := h.nx
  rw [bX (left_spec h), bI]
  by_cases e : s.adds.length = s.nx
  · have k : (((s.adds.length - s.nx : Nat) : Int) == 0) = true := by rw [e]; simp
    rw [k, ifT]
  · have k : (((s.adds.length - s.nx : Nat) : Int) == 0) = false := beq_eq_false_iff_ne.2 (by omega)
    have hne : ((L.length : Int) != s.size) = true := by simp [ho.resolve_left e]
    rw [k, ifF, bX (len_spec hm), bI]
    simp only [↓bLI h0]
    rw [if_pos (by simp [chkOk, List.lookup]), hne, ifT]
theorem step_read {M : AMem} {f b a : Nat} {p : Option Addr} {c : Nat} {s : FS} {L : List Int} {st wi : Nat} (h : IsFl M f p c s) (hm : IsMem M b a L st wi) (hst : st < 1000000000000000000) (hd : f ≠ b ∧ f ≠ a ∧ ∀ x ∈ blk p, x ≠ b ∧ x ≠ a) {x : Int × Int} (hx : s.adds[s.nx]? = some x) (hsz : (L.length : Int) = s.size) (hr : s.rd = false) :
    ∃ M', LL.call 59 [pt f, pt b] M = some (.bool true, M') ∧ IsFl M' f p c { s with rd := decide (inR L x.1), seen := getI L x.1 } ∧ IsMem M' b a L (st + 1) wi ∧ Same M M' [f, b] := by
  rw [L_call59, E59]
  have hlt := (ges.1 hx).1
  have hs := h.sz
  obtain ⟨z, rfl, hz⟩ := h.ad.2 (by omega)
  obtain ⟨h0, h1, h2, h3, h4, h5⟩ := h.ld
  obtain ⟨e0, e1⟩ := add_ld hz hx
  have k : (((s.adds.length - s.nx : Nat) : Int) == 0) = false := beq_eq_false_iff_ne.2 (by omega)
  have hne : ((L.length : Int) != s.size) = false := by simp [hsz]
  have hg : (0 : Int) ≤ (s.nx : Int) ∧ (s.nx : Int) < Int.ofNat s.adds.length := by rw [ofN]; omega
  have s1 := same_app M [AObj.cells [.int .i64 0, .int .u64 0] ⟨false, 0⟩]
  have g1 := cells_new M [.int .i64 0, .int .u64 0] 0
  obtain ⟨M1, w1, w2, w3, w4⟩ := g1.wr (o := 0) (vs := [.int .i64 x.1, .int .u64 x.2]) (by simp)
  have w2' : Cells M1 M.length [.int .i64 x.1, .int .u64 x.2] := by simpa [wrL] using w2
  have t1 : Same M M1 [] := (s1.trans w3).mono' (by simp)
  have hf1 := h.same t1 (by simp) (by simp)
  have hm1 := hm.same t1 (by simp) (by simp)
  obtain ⟨_, _, _, h3', _, _⟩ := hf1.ld
  rw [hr] at h3'
  have y0 : M1.ld M.length 0 = some (.int .i64 x.1) := w2'.ld 0
  obtain ⟨M2, k1, k2, k3⟩ := load_spec hm1 hst x.1
  have hfl := h.hd.lt
  have hf2 := hf1.same k3 (by simp; exact hd.1) (fun y hy => by simp; exact (hd.2.2 y hy).1)
  obtain ⟨M3, y1, y2, y3, y4⟩ := hf2.hd.wr (o := 4) (vs := [.int .u64 (getI L x.1)]) (by simp)
  obtain ⟨M4, y5, y6, y7, y8⟩ := y2.wr (o := 3) (vs := [.bool (decide (inR L x.1))]) (by simp [wrL])
  have t24 : Same M2 M4 [f] := (y3.trans y7).mono (by simp)
  have hchk : chkOk [(3, 10), (7, 10), (9, 10)] [(9, z), (7, f), (3, f)] [(10, (M, M ++ [AObj.cells [.int .i64 0, .int .u64 0] ⟨false, 0⟩]))] = true := by
    simp [chkOk, List.lookup, ver_same s1 hfl (by simp), ver_same s1 hz.lt (by simp)]
  refine ⟨M4, ?_, ⟨by simpa [wrL] using y6, hf2.ad.same t24 (fun y hy => by simp; exact h.ne y hy), h.ne, h.nx, h.sz⟩, k2.same t24 (by simp; exact Ne.symm hd.1) (by simp; exact Ne.symm hd.2.1), ((t1.trans k3).trans t24).mono (by simp)⟩
  rw [bX (left_spec h), bI, k, ifF, bX (len_spec hm), bI]
  simp only [↓bLI h0]
  rw [if_pos (by simp [chkOk, List.lookup]), hne, ifF]
  simp only [Nat.zero_add, ↓bLS h1, ↓bLI h2, ↓if_pos hg, Int.toNat_natCast, ↓bLI e0, ↓bLI e1, ↓bX w1, ↓if_pos hchk, ↓bLB h3', ↓ifNF, ↓bLI y0, ↓bX k1, ↓bT2, ↓bG0, ↓bG1, ↓bI, ↓bB, ↓bX y1, ↓bX y5]
theorem step_cas {M : AMem} {f b a : Nat} {p : Option Addr} {c : Nat} {s : FS} {L : List Int} {st wi : Nat} (h : IsFl M f p c s) (hm : IsMem M b a L st wi) (hst : st < 1000000000000000000) (hwi : wi < 1000000000000000000) (hlo : s.lost < 1000000000000000000) (hd : f ≠ b ∧ f ≠ a ∧ ∀ x ∈ blk p, x ≠ b ∧ x ≠ a) {x : Int × Int} (hx : s.adds[s.nx]? = some x) (hsz : (L.length : Int) = s.size) (hr : s.rd = true) :
    ∃ M', LL.call 59 [pt f, pt b] M = some (.bool true, M') ∧ IsFl M' f p c (if casB L x.1 s.seen then { s with rd := false, nx := s.nx + 1 } else { s with rd := false, lost := s.lost + 1 }) ∧
      IsMem M' b a (casL L x.1 s.seen (IntKind.wrap .u64 (s.seen + x.2))) (st + 1) (if casB L x.1 s.seen then wi + 1 else wi) ∧ Same M M' [f, b, a] := by
  rw [L_call59, E59]
  have hlt := (ges.1 hx).1
  have hs := h.sz
  obtain ⟨z, rfl, hz⟩ := h.ad.2 (by omega)
  obtain ⟨h0, h1, h2, h3, h4, h5⟩ := h.ld
  obtain ⟨e0, e1⟩ := add_ld hz hx
  have k : (((s.adds.length - s.nx : Nat) : Int) == 0) = false := beq_eq_false_iff_ne.2 (by omega)
  have hne : ((L.length : Int) != s.size) = false := by simp [hsz]
  have hg : (0 : Int) ≤ (s.nx : Int) ∧ (s.nx : Int) < Int.ofNat s.adds.length := by rw [ofN]; omega
  have s1 := same_app M [AObj.cells [.int .i64 0, .int .u64 0] ⟨false, 0⟩]
  have g1 := cells_new M [.int .i64 0, .int .u64 0] 0
  obtain ⟨M1, w1, w2, w3, w4⟩ := g1.wr (o := 0) (vs := [.int .i64 x.1, .int .u64 x.2]) (by simp)
  have w2' : Cells M1 M.length [.int .i64 x.1, .int .u64 x.2] := by simpa [wrL] using w2
  have t1 : Same M M1 [] := (s1.trans w3).mono' (by simp)
  have hf1 := h.same t1 (by simp) (by simp)
  have hm1 := hm.same t1 (by simp) (by simp)
  obtain ⟨_, _, _, h3', _, _⟩ := hf1.ld
  rw [hr] at h3'
  have hfl := h.hd.lt
  have hchk : chkOk [(3, 10), (7, 10), (9, 10)] [(9, z), (7, f), (3, f)] [(10, (M, M ++ [AObj.cells [.int .i64 0, .int .u64 0] ⟨false, 0⟩]))] = true := by
    simp [chkOk, List.lookup, ver_same s1 hfl (by simp), ver_same s1 hz.lt (by simp)]
  obtain ⟨M2, y1, y2, y3, y4⟩ := hf1.hd.wr (o := 3) (vs := [.bool false]) (by simp)
  have y2' : Cells M2 f [.int .i64 s.size, .slice (some ⟨z, 0, none⟩) s.adds.length c, .int .i64 (s.nx : Int), .bool false, .int .u64 s.seen, .int .i64 (s.lost : Int)] := by simpa [wrL] using y2
  have hm2 := hm1.same y3 (by simp; exact Ne.symm hd.1) (by simp; exact Ne.symm hd.2.1)
  have x2 := w2'.same y3 (by simp; omega)
  have u0 : M2.ld M.length 0 = some (.int .i64 x.1) := x2.ld 0
  have u1 : M2.ld M.length 1 = some (.int .u64 x.2) := x2.ld 1
  have u4 : M2.ld f 4 = some (.int .u64 s.seen) := y2'.ld 4
  obtain ⟨M3, k1, k2, k3⟩ := cas_spec hm2 hst hwi x.1 s.seen (IntKind.wrap .u64 (s.seen + x.2))
  have f3 := y2'.same k3 (by simp; exact ⟨hd.1, hd.2.1⟩)
  have a2 : RdL M2 encA (some ⟨z, 0, none⟩) s.adds.length s.adds := hf1.ad.same y3 (fun y hy => by simp; exact h.ne y hy)
  have a3 := a2.same k3 (fun y hy => by simp; exact ⟨(hd.2.2 y hy).1, (hd.2.2 y hy).2⟩)
  have t3 : Same M M3 [f, b, a] := ((t1.trans y3).trans k3).mono (by simp)
  cases hc : casB L x.1 s.seen with
  | true =>
    rw [hc] at k1
    have v2 : M3.ld f 2 = some (.int .i64 (s.nx : Int)) := f3.ld 2
    obtain ⟨M4, z1, z2, z3, z4⟩ := f3.wr (o := 2) (vs := [.int .i64 ((s.nx + 1 : Nat) : Int)]) (by simp)
    have wn : IntKind.wrap .i64 ((s.nx : Int) + 1) = ((s.nx + 1 : Nat) : Int) := by rw [w64 (by omega)]; rfl
    refine ⟨M4, ?_, ?_, ?_, (t3.trans z3).mono (by simp)⟩
    · rw [bX (left_spec h), bI, k, ifF, bX (len_spec hm), bI]
      simp only [↓bLI h0]
      rw [if_pos (by simp [chkOk, List.lookup]), hne, ifF]
      simp only [Nat.zero_add, ↓bLS h1, ↓bLI h2, ↓if_pos hg, Int.toNat_natCast, ↓bLI e0, ↓bLI e1, ↓bX w1, ↓if_pos hchk, ↓bLB h3', ↓ifNT, ↓bX y1, ↓bLI u0, ↓bLI u4, ↓bLI u1, ↓bX k1, ↓bB, ↓ifT, ↓bLI v2, wn, ↓bX z1]
    · simp only [if_true]
      exact ⟨by simpa [wrL] using z2, a3.same z3 (fun y hy => by simp; exact h.ne y hy), h.ne, by simp only; omega, h.sz⟩
    · rw [hc] at k2
      exact k2.same z3 (by simp; exact Ne.symm hd.1) (by simp; exact Ne.symm hd.2.1)
  | false =>
    rw [hc] at k1
    have v5 : M3.ld f 5 = some (.int .i64 (s.lost : Int)) := f3.ld 5
    obtain ⟨M4, z1, z2, z3, z4⟩ := f3.wr (o := 5) (vs := [.int .i64 ((s.lost + 1 : Nat) : Int)]) (by simp)
    have wn : IntKind.wrap .i64 ((s.lost : Int) + 1) = ((s.lost + 1 : Nat) : Int) := by rw [w64 (by omega)]; rfl
    refine ⟨M4, ?_, ?_, ?_, (t3.trans z3).mono (by simp)⟩
    · rw [bX (left_spec h), bI, k, ifF, bX (len_spec hm), bI]
      simp only [↓bLI h0]
      rw [if_pos (by simp [chkOk, List.lookup]), hne, ifF]
      simp only [Nat.zero_add, ↓bLS h1, ↓bLI h2, ↓if_pos hg, Int.toNat_natCast, ↓bLI e0, ↓bLI e1, ↓bX w1, ↓if_pos hchk, ↓bLB h3', ↓ifNT, ↓bX y1, ↓bLI u0, ↓bLI u4, ↓bLI u1, ↓bX k1, ↓bB, ↓ifF, ↓bLI v5, wn, ↓bX z1, P59_36_eq]
    · simp only [Bool.false_eq_true, if_false]
      exact ⟨by simpa [wrL] using z2, a3.same z3 (fun y hy => by simp; exact h.ne y hy), h.ne, h.nx, h.sz⟩
    · rw [hc] at k2
      exact k2.same z3 (by simp; exact Ne.symm hd.1) (by simp; exact Ne.symm hd.2.1)
def chAdd (S px : Int) (c : Nat) (w : Int) : List (Int × Int) := if w = 0 then [] else [(1 + 2 * S + (3 * px + c), w)]
def enAdds (S : Int) (e : En) : List (Int × Int) := chAdd S e.px 0 e.w0 ++ chAdd S e.px 1 e.w1 ++ chAdd S e.px 2 e.w2
def flAdds (S stripe : Int) (es : List En) : List (Int × Int) := (1 + stripe, 1) :: (es.flatMap (enAdds S) ++ [(1 + S + stripe, 1)])
theorem chAdd_len (S px : Int) (c : Nat) (w : Int) : (chAdd S px c w).length ≤ 1 := by unfold chAdd; split <;> simp
theorem enAdds_len (S : Int) (e : En) : (enAdds S e).length ≤ 3 := by
  have a := chAdd_len S e.px 0 e.w0
  have b := chAdd_len S e.px 1 e.w1
  have c := chAdd_len S e.px 2 e.w2
  simp only [enAdds, List.length_append]; omega
theorem esAdds_len (S : Int) : ∀ es : List En, (es.flatMap (enAdds S)).length ≤ 3 * es.length
  | [] => by simp
  | e :: es => by
    have := esAdds_len S es
    have := enAdds_len S e
    rw [List.flatMap_cons, List.length_append, List.length_cons]; omega
structure NwI (l f x9 : Nat) (u : Value) (size : Int) (M0 : AMem) (ks : List (Nat × List Value)) (A : List (Int × Int)) (M : AMem) : Prop where
  lp : M[l]? = some (.loop (lo62_39 .ready none x9 u))
  out : ∃ o c, Cells M f [.int .i64 size, .slice o A.length c, .int .i64 0, .bool false, .int .u64 0, .int .i64 0] ∧ Slc M 2 o A.length c (A.flatMap encA) ∧ (∀ b ∈ blk o, M0.length ≤ b ∧ b ≠ f ∧ b ≠ l ∧ b ≠ x9 ∧ ∀ k ∈ ks, b ≠ k.1)
  h9 : Rd M x9 [.pointer (some ⟨f, 0, none⟩)]
  kp : ∀ k ∈ ks, Rd M k.1 k.2 ∧ k.1 ≠ f ∧ k.1 ≠ l
  same : Same M0 M [f, l]
  ne : f ≠ l ∧ x9 ≠ f ∧ x9 ≠ l
theorem NwI.st {l f x9 : Nat} {u : Value} {size : Int} {M0 : AMem} {ks : List (Nat × List Value)} {A : List (Int × Int)} {M M' : AMem} (h : NwI l f x9 u size M0 ks A M) (s : Same M M' []) : NwI l f x9 u size M0 ks A M' := by
  obtain ⟨o, c, h1, h2, h3⟩ := h.out
  exact ⟨s.at h.lp (by simp), ⟨o, c, h1.same s (by simp), h2.same s (by simp), h3⟩, h.h9.same s (by simp), fun k hk => ⟨(h.kp k hk).1.same s (by simp), (h.kp k hk).2⟩, (h.same.trans s).mono (by simp), h.ne⟩
theorem NwI.add {l f x9 : Nat} {u : Value} {size : Int} {M0 : AMem} {ks : List (Nat × List Value)} {A : List (Int × Int)} {M M' : AMem} (h : NwI l f x9 u size M0 ks A M) (s : Same M M' []) {b : Nat} {cs : List Value} (hb : Rd M' b cs) (hl : M.length ≤ b) : NwI l f x9 u size M0 ((b, cs) :: ks) A M' := by
  have h' := h.st s
  obtain ⟨o, c, h1, h2, h3⟩ := h.out
  have hf := h1.lt
  have hll := lt_of_get h.lp
  have ho := h2.lt
  refine ⟨h'.lp, ⟨o, c, h1.same s (by simp), h2.same s (by simp), fun z hz => ?_⟩, h'.h9, fun k hk => ?_, h'.same, h.ne⟩
  · obtain ⟨q1, q2, q3, q4, q5⟩ := h3 z hz
    refine ⟨q1, q2, q3, q4, fun k hk => ?_⟩
    rcases List.mem_cons.1 hk with rfl | hk
    · have := ho z hz; simp only; omega
    · exact q5 k hk
  · rcases List.mem_cons.1 hk with rfl | hk
    · exact ⟨hb, by simp only; omega, by simp only; omega⟩
    · exact h'.kp k hk
theorem NwI.drop {l f x9 : Nat} {u : Value} {size : Int} {M0 : AMem} {k : Nat × List Value} {ks : List (Nat × List Value)} {A : List (Int × Int)} {M : AMem} (h : NwI l f x9 u size M0 (k :: ks) A M) : NwI l f x9 u size M0 ks A M := by
  obtain ⟨o, c, h1, h2, h3⟩ := h.out
  exact ⟨h.lp, ⟨o, c, h1, h2, fun b hb => by
    obtain ⟨q1, q2, q3, q4, q5⟩ := h3 b hb
    exact ⟨q1, q2, q3, q4, fun k hk => q5 k (by simp [hk])⟩⟩, h.h9, fun k hk => h.kp k (by simp [hk]), h.same, h.ne⟩
theorem nw_step {l f x9 : Nat} {u : Value} {size : Int} {M0 : AMem} {ks : List (Nat × List Value)} {A : List (Int × Int)} {M : AMem} (h : NwI l f x9 u size M0 ks A M) (hA : A.length ≤ 100000) (x : Int × Int) :
    ∃ M', LL.round l [.agg #[.int .i64 x.1, .int .u64 x.2]] M = some (.bool true, M') ∧ NwI l f x9 u size M0 ks (A ++ [x]) M' := by
  have s1 := same_app M [AObj.cells [.int .i64 0, .int .u64 0] ⟨false, 0⟩]
  have g1 := cells_new M [.int .i64 0, .int .u64 0] 0
  obtain ⟨M1, w1, w2, w3, w4⟩ := g1.wr (o := 0) (vs := encA x) (by simp [encA])
  unfold encA at w1 w2
  have w2' : Cells M1 M.length [.int .i64 x.1, .int .u64 x.2] := by simpa [wrL] using w2
  have t1 : Same M M1 [] := (s1.trans w3).mono' (by simp)
  have hi1 := h.st t1
  have hlM := lt_of_get h.lp
  obtain ⟨d1, d2, d3⟩ := h.ne
  rw [R62_39 LL L_round l x9 u _ _ M none h.lp M1 w1 hi1.lp, P62_39_eq]
  have s2 := same_set M1 l (.loop (lo62_39 .busy none x9 u))
  have lp2 : (M1.set l (.loop (lo62_39 .busy none x9 u)))[l]? = some (.loop (lo62_39 .busy none x9 u)) := get_set_self hi1.lp
  have l2 : (M1.set l (.loop (lo62_39 .busy none x9 u))).length = M1.length := by simp
  generalize hM2 : M1.set l (.loop (lo62_39 .busy none x9 u)) = M2 at s2 lp2 l2
  obtain ⟨o, c, o1, o2, o3⟩ := hi1.out
  have o1' := o1.same s2 (by simp; exact d1)
  have o2' := o2.same s2 (fun b hb => by simp; exact (o3 b hb).2.2.1)
  have h9' := hi1.h9.same s2 (by simp; exact d3)
  have z2 := w2'.same s2 (by simp; omega)
  have z0 : AMem.ld M2 M.length 0 = some (.int .i64 x.1) := z2.ld 0
  have z1 : AMem.ld M2 M.length 1 = some (.int .u64 x.2) := z2.ld 1
  have p9 : AMem.ld M2 x9 0 = some (.pointer (some ⟨f, 0, none⟩)) := h9'.ld 0
  have f1 : AMem.ld M2 f 1 = some (.slice o A.length c) := o1'.ld 1
  obtain ⟨M3, k1, k2, k3⟩ := grn_row (bytes := 16) (new := encA x) (m := 1) (v := 0) o2' rfl (by omega) (by omega)
  have hrow := rowOf_new M2 2 1 (encA x) 0 2 rfl
  unfold encA at k1 hrow
  have ol := o2'.lt
  have fl := o1'.lt
  have o1'' := o1'.same k3.same (fun hb => (o3 _ hb).2.1 rfl)
  obtain ⟨M4, y1, y2, y3, y4⟩ := o1''.wr (o := 1) (vs := [.slice (some ⟨List.length M2 + 1, 0, none⟩) (A.length + 1) 2]) (by simp)
  have y2' : Cells M4 f [.int .i64 size, .slice (some ⟨List.length M2 + 1, 0, none⟩) (A.length + 1) 2, .int .i64 0, .bool false, .int .u64 0, .int .i64 0] := by simpa [wrL] using y2
  have lp4 : M4[l]? = some (.loop (lo62_39 .busy none x9 u)) := y3.at (k3.same.at lp2 (fun hb => (o3 _ hb).2.2.1 rfl)) (by simp; exact Ne.symm d1)
  have s5 := same_set M4 l (.loop (lo62_39 .ready none x9 u))
  have hallM : Same M (M4.set l (.loop (lo62_39 .ready none x9 u))) (f :: l :: blk o) := ((((t1.trans s2).trans k3.same).trans y3).trans s5).mono (by
    intro b hb; simp at hb ⊢; rcases hb with h | h | h | h <;> simp [h])
  have h9l := h9'.lt
  have hM0 := h.same.le
  have sr := same_app M2 [AObj.cells [.int .i64 x.1, .int .u64 x.2] ⟨false, 0⟩]
  have q1 := t1.le
  have q2 := s2.le
  have q3 := k3.same.le
  have hchk : chkOk [(0, 6), (0, 7), (1, 6), (4, 6)] [(4, f), (1, x9), (0, x9)] [(7, (M2 ++ [AObj.cells [.int .i64 x.1, .int .u64 x.2] ⟨false, 0⟩], M3)), (6, (M2, M2 ++ [AObj.cells [.int .i64 x.1, .int .u64 x.2] ⟨false, 0⟩]))] = true := by
    have v1 := ver_same sr h9l (by simp)
    have v2 := ver_same sr fl (by simp)
    have v3 : AMem.ver M2 x9 = AMem.ver M3 x9 := ver_same k3.same h9l (fun hb => (o3 _ hb).2.2.2.1 rfl)
    have v4 : AMem.ver (M2 ++ [AObj.cells [.int .i64 x.1, .int .u64 x.2] ⟨false, 0⟩]) x9 = AMem.ver M3 x9 := by rw [← v1, v3]
    simp [chkOk, List.lookup, v1, v2, v4]
  refine ⟨M4.set l (.loop (lo62_39 .ready none x9 u)), ?_, ⟨get_set_self lp4, ⟨some ⟨List.length M2 + 1, 0, none⟩, 2, ?_, ?_, ?_⟩, ?_, ?_, ?_, h.ne⟩⟩
  · simp only [↓bLP p9, Nat.zero_add, ↓bLS f1, ↓bLI z0, ↓bLI z1, ↓bX hrow, k1, ↓bX y1, ↓if_pos hchk]
    exact roundK_normal lp4
  · rw [List.length_append, List.length_singleton]
    exact y2'.same s5 (by simp; exact d1)
  · rw [List.length_append, List.length_singleton, List.flatMap_append]
    have := (k2.same y3 (by simp; omega)).same s5 (by simp; omega)
    simpa using this
  · intro b hb
    simp at hb
    subst hb
    refine ⟨by omega, by omega, by omega, by omega, fun k hk => ?_⟩
    have := ((hi1.kp k hk).1).lt
    omega
  · exact ((h9'.same k3.same (fun hb => (o3 _ hb).2.2.2.1 rfl)).same y3 (by simp; exact d2)).same s5 (by simp; exact d3)
  · intro k hk
    obtain ⟨q1, q2, q3⟩ := hi1.kp k hk
    exact ⟨((((q1.same s2 (by simp; exact q3)).same k3.same (fun hb => (o3 _ hb).2.2.2.2 k hk rfl)).same y3 (by simp; exact q2)).same s5 (by simp; exact q3)), q2, q3⟩
  · refine (h.same.trans hallM).mono' fun b hb hlt => ?_
    simp only [List.mem_append, List.mem_cons, List.not_mem_nil, or_false] at hb ⊢
    rcases hb with (hb | hb) | hb | hb | hb
    · exact .inl hb
    · exact .inr hb
    · exact .inl hb
    · exact .inr hb
    · have := (o3 b hb).1; omega
theorem ch_step {l f x9 x1 x2 x6 : Nat} {u : Value} {size p s : Int} {M0 : AMem} {ks : List (Nat × List Value)} {A : List (Int × Int)} {M : AMem} {e : En} {q : Option Addr} {qn qc : Nat} {x17 x18 : Int} (hr : Rt p s) (he : 0 ≤ e.px ∧ e.px < p)
    (h : NwI l f x9 u size M0 ks A M) (hA : A.length ≤ 100000) (h1 : (x1, [.int .i64 p, .int .i64 s]) ∈ ks) (h6 : (x6, encE e) ∈ ks) (c : Nat) (hc : c < 3) (w : Int) (hw : ([e.w0, e.w1, e.w2] : List Int)[c]? = some w) :
    ∃ M', P86_24 LL l x1 x2 x6 q qn qc x17 x18 e.w0 e.w1 e.w2 (c : Int) M = P86_24 LL l x1 x2 x6 q qn qc x17 x18 e.w0 e.w1 e.w2 ((c + 1 : Nat) : Int) M' ∧ NwI l f x9 u size M0 ks (A ++ chAdd s e.px c w) M' := by
  rw [P86_24_eq LL L_loop l x1]
  have a1 : decide ((c : Int) < 3) = true := decide_eq_true (by omega)
  have a2 : (0 : Int) ≤ (c : Int) ∧ (c : Int) < 3 := by omega
  have a3 : ([e.w0, e.w1, e.w2] : List Int)[((Int.toNat (c : Int)) * 1)]? = some w := by rw [Int.toNat_natCast, Nat.mul_one]; exact hw
  have wc : IntKind.wrap .i64 ((c : Int) + 1) = ((c + 1 : Nat) : Int) := by rw [w64 (by omega)]; rfl
  rw [a1, ifT, if_pos a2, bX a3]
  by_cases hz : w = 0
  · refine ⟨M, ?_, by simpa [chAdd, hz] using h⟩
    subst hz
    rw [if_neg (by simp), P86_40_eq, wc]
  · obtain ⟨k1, _⟩ := h.kp _ h1
    obtain ⟨k6, _⟩ := h.kp _ h6
    have y0 : M.ld x1 0 = some (.int .i64 p) := k1.ld 0
    have y1 : M.ld x1 1 = some (.int .i64 s) := k1.ld 1
    have y2 : M.ld x6 0 = some (.int .i64 e.px) := k6.ld 0
    obtain ⟨_, k⟩ := channel_spec p s e.px c
    rw [if_pos ⟨hr, he, by omega⟩] at k
    obtain ⟨M', r1, r2⟩ := nw_step h hA (1 + 2 * s + (3 * e.px + c), w)
    refine ⟨M', ?_, by simpa [chAdd, hz] using r2⟩
    rw [if_pos (by simpa using hz), bLI y0, bLI y1, bLI y2, bX k, bI, bX r1, bB, ifNF', P86_40_eq, wc]
where
  ifNF' {α : Type} {a b : α} : (if (!true) = true then a else b) = b := rfl
theorem ch_all {l f x9 x1 x2 x6 : Nat} {u : Value} {size p s : Int} {M0 : AMem} {ks : List (Nat × List Value)} {A : List (Int × Int)} {M : AMem} {e : En} {q : Option Addr} {qn qc : Nat} {x17 x18 : Int} (hr : Rt p s) (he : 0 ≤ e.px ∧ e.px < p)
    (h : NwI l f x9 u size M0 ks A M) (hA : A.length ≤ 90000) (h1 : (x1, [.int .i64 p, .int .i64 s]) ∈ ks) (h6 : (x6, encE e) ∈ ks) :
    ∃ M', P86_24 LL l x1 x2 x6 q qn qc x17 x18 e.w0 e.w1 e.w2 0 M = P86_41 LL l x1 x2 q qn qc x17 x18 M' ∧ NwI l f x9 u size M0 ks (A ++ enAdds s e) M' := by
  have c0 := chAdd_len s e.px 0 e.w0
  have c1 := chAdd_len s e.px 1 e.w1
  obtain ⟨M1, a1, b1⟩ := ch_step (x2 := x2) (q := q) (qn := qn) (qc := qc) (x17 := x17) (x18 := x18) hr he h (by omega) h1 h6 0 (by omega) e.w0 rfl
  obtain ⟨M2, a2, b2⟩ := ch_step (x2 := x2) (q := q) (qn := qn) (qc := qc) (x17 := x17) (x18 := x18) hr he b1 (by simp; omega) h1 h6 1 (by omega) e.w1 rfl
  obtain ⟨M3, a3, b3⟩ := ch_step (x2 := x2) (q := q) (qn := qn) (qc := qc) (x17 := x17) (x18 := x18) hr he b2 (by simp; omega) h1 h6 2 (by omega) e.w2 rfl
  refine ⟨M3, ?_, by simpa [enAdds] using b3⟩
  rw [show (0 : Int) = ((0 : Nat) : Int) from rfl, a1, a2, a3, P86_24_eq LL L_loop l x1]
  rw [if_neg (by simp)]
theorem ent_loop {l f x9 x1 x2 z : Nat} {u : Value} {size p s : Int} {M0 : AMem} {ks : List (Nat × List Value)} {es : List En} {q : Option Addr} {qc : Nat} (hr : Rt p s) (he : ∀ e ∈ es, 0 ≤ e.px ∧ e.px < p) (hes : es.length ≤ 4096)
    (h1 : (x1, [.int .i64 p, .int .i64 s]) ∈ ks) (hz : es = [] ∨ (q = some ⟨z, 0, none⟩ ∧ (z, es.flatMap encE) ∈ ks)) : ∀ (d j : Nat) (A : List (Int × Int)) (M : AMem), j + d = es.length → NwI l f x9 u size M0 ks A M → A.length + 3 * d ≤ 90000 →
    ∃ M', P86_10 LL l x1 x2 q es.length qc (es.length : Int) (j : Int) M = P86_42 LL l x1 x2 M' ∧ NwI l f x9 u size M0 ks (A ++ (es.drop j).flatMap (enAdds s)) M' := by
  intro d
  induction d with
  | zero =>
    intro j A M hj h hA
    rw [P86_10_eq LL L_loop l x1, ifDn (by omega)]
    exact ⟨M, rfl, by rw [List.drop_eq_nil_of_le (by omega)]; simpa using h⟩
  | succ d ih =>
    intro j A M hj h hA
    rw [P86_10_eq LL L_loop l x1, ifD (by omega)]
    obtain ⟨rfl, hzk⟩ := hz.resolve_left (by intro h0; rw [h0] at hj; simp at hj)
    have hjl : j < es.length := by omega
    obtain ⟨e, hej⟩ : ∃ e, es[j]? = some e := ⟨_, gee hjl⟩
    have hee := he e (List.mem_of_getElem? hej)
    have kz : Rd M z (es.flatMap encE) := (h.kp _ hzk).1
    obtain ⟨l0, l1, l2, l3⟩ := ent_ld kz hej
    have s1 := same_app M [AObj.cells [.int .i64 0, .int .u64 0, .int .u64 0, .int .u64 0] ⟨false, 0⟩]
    have g1 := cells_new M [.int .i64 0, .int .u64 0, .int .u64 0, .int .u64 0] 0
    obtain ⟨M1, w1, w2, w3, w4⟩ := g1.wr (o := 0) (vs := encE e) (by simp [encE])
    unfold encE at w1 w2
    have w2' : Cells M1 M.length (encE e) := by simpa [wrL, encE] using w2
    have t1 : Same M M1 [] := (s1.trans w3).mono' (by simp)
    have hi := h.add t1 w2'.rd (by omega)
    have u0 : M1.ld M.length 1 = some (.int .u64 e.w0) := w2'.ld 1
    have u1 : M1.ld M.length 2 = some (.int .u64 e.w1) := w2'.ld 2
    have u2 : M1.ld M.length 3 = some (.int .u64 e.w2) := w2'.ld 3
    obtain ⟨M2, r1, r2⟩ := ch_all (x2 := x2) (q := some ⟨z, 0, none⟩) (qn := es.length) (qc := qc) (x17 := (es.length : Int)) (x18 := (j : Int)) hr hee hi (by omega) (List.mem_cons_of_mem _ h1) List.mem_cons_self
    have r3 := r2.drop
    have el := enAdds_len s e
    obtain ⟨M', k1, k2⟩ := ih (j + 1) _ M2 (by omega) r3 (by simp; omega)
    have hw : IntKind.wrap .i64 ((j : Int) + 1) = ((j + 1 : Nat) : Int) := by rw [w64 (by omega)]; rfl
    have hg : (0 : Int) ≤ (j : Int) ∧ (j : Int) < Int.ofNat es.length := by rw [ofN]; omega
    have hd : es.drop j = e :: es.drop (j + 1) := by rw [List.drop_eq_getElem_cons hjl]; congr 1; exact (ges.1 hej).2
    refine ⟨M', ?_, by rw [hd, List.flatMap_cons, ← List.append_assoc]; exact k2⟩
    simp only [↓if_pos hg, Nat.zero_add, Int.toNat_natCast, ↓bLI l0, ↓bLI l1, ↓bLI l2, ↓bLI l3, ↓bX w1, ↓bLI u0, ↓bLI u1, ↓bLI u2]
    rw [r1, P86_41_eq, hw, k1]
theorem adds_spec {l f x9 x1 x2 x3 z : Nat} {u : Value} {size p s st : Int} {M0 : AMem} {ks : List (Nat × List Value)} {es : List En} {q : Option Addr} {qc : Nat} {M : AMem} (hr : Rt p s) (hst : 0 ≤ st ∧ st < s) (he : ∀ e ∈ es, 0 ≤ e.px ∧ e.px < p) (hes : es.length ≤ 4096)
    (h1 : (x1, [.int .i64 p, .int .i64 s]) ∈ ks) (h2 : (x2, [.int .i64 st]) ∈ ks) (h3 : (x3, [.slice q es.length qc]) ∈ ks) (hz : es = [] ∨ (q = some ⟨z, 0, none⟩ ∧ (z, es.flatMap encE) ∈ ks)) (h : NwI l f x9 u size M0 ks [] M) :
    ∃ M', LL.call 86 [.func (.yield l) #[] #[], pt x1, pt x2, pt x3] M = some (.tuple #[], M') ∧ NwI l f x9 u size M0 ks (flAdds s st es) M' := by
  rw [L_call86, E86]
  obtain ⟨k1, _⟩ := h.kp _ h1
  obtain ⟨k2, _⟩ := h.kp _ h2
  have y0 : M.ld x1 0 = some (.int .i64 p) := k1.ld 0
  have y1 : M.ld x1 1 = some (.int .i64 s) := k1.ld 1
  have y2 : M.ld x2 0 = some (.int .i64 st) := k2.ld 0
  obtain ⟨_, k⟩ := begun_spec p s st (.inl hr.2.2.2)
  rw [if_pos ⟨hr, hst⟩] at k
  obtain ⟨M1, r1, r2⟩ := nw_step h (by simp) (1 + st, 1)
  obtain ⟨k3, _⟩ := r2.kp _ h3
  have y3 : M1.ld x3 0 = some (.slice q es.length qc) := k3.ld 0
  have el := esAdds_len s es
  obtain ⟨M2, e1, e2⟩ := ent_loop (x2 := x2) (qc := qc) hr he hes h1 hz es.length 0 _ M1 (by omega) r2 (by simp; omega)
  obtain ⟨k1', _⟩ := e2.kp _ h1
  obtain ⟨k2', _⟩ := e2.kp _ h2
  have y0' : M2.ld x1 0 = some (.int .i64 p) := k1'.ld 0
  have y1' : M2.ld x1 1 = some (.int .i64 s) := k1'.ld 1
  have y2' : M2.ld x2 0 = some (.int .i64 st) := k2'.ld 0
  obtain ⟨_, k'⟩ := ended_spec p s st
  rw [if_pos ⟨hr, hst⟩] at k'
  rw [List.drop_zero] at e2
  obtain ⟨M3, r3, r4⟩ := nw_step e2 (by rw [List.length_append, List.nil_append, List.length_singleton]; omega) (1 + s + st, 1)
  refine ⟨M3, ?_, by simpa [flAdds] using r4⟩
  rw [bLI y0, bLI y1, bLI y2, bX k, bI, bX r1, bB, if_neg (by simp), bLS y3]
  simp only [ofN]
  rw [show (0 : Int) = ((0 : Nat) : Int) from rfl, e1, P86_42_eq, bLI y0', bLI y1', bLI y2', bX k', bI, bX r3, bB]
def FlOk (p s st : Int) (es : List En) : Prop := (Rt p s ∧ 0 ≤ st ∧ st < s) ∧ es.length ≤ 4096 ∧ ∀ e ∈ es, 0 ≤ e.px ∧ e.px < p ∧ Int.tmod e.px s = st
instance (p s st : Int) (es : List En) : Decidable (FlOk p s st es) := by unfold FlOk Rt; infer_instance
def flNew (p s st : Int) (es : List En) : FS := ⟨1 + 2 * s + 3 * p, flAdds s st es, 0, false, 0, 0⟩
theorem new_end {M : AMem} {x3 : Nat} {p s st : Int} {es : List En} {q : Option Addr} {qc : Nat} (hok : FlOk p s st es) (h3 : Rd M x3 [.int .i64 p, .int .i64 s]) (hq : RdL M encE q es.length es) :
    ∃ M' f o c, P62_33 LL st q es.length qc x3 M = some (pt f, M') ∧ IsFl M' f o c (flNew p s st es) ∧ Same M M' [] ∧ M.length ≤ f ∧ ∀ b ∈ blk o, M.length ≤ b := by
  obtain ⟨⟨hr, hst⟩, hes, he⟩ := hok
  have y0 : M.ld x3 0 = some (.int .i64 p) := h3.ld 0
  have y1 : M.ld x3 1 = some (.int .i64 s) := h3.ld 1
  obtain ⟨_, k⟩ := size_spec p s
  rw [if_pos hr] at k
  rw [P62_33_eq, bLI y0, bLI y1, bX k, bI]
  have gf := cells_new M [.int .i64 (1 + 2 * s + 3 * p), .slice none 0 0, .int .i64 0, .bool false, .int .u64 0, .int .i64 0] 0
  have sf := same_app M [AObj.cells [.int .i64 (1 + 2 * s + 3 * p), .slice none 0 0, .int .i64 0, .bool false, .int .u64 0, .int .i64 0] ⟨false, 0⟩]
  have lf : (M ++ [AObj.cells [.int .i64 (1 + 2 * s + 3 * p), .slice none 0 0, .int .i64 0, .bool false, .int .u64 0, .int .i64 0] ⟨false, 0⟩]).length = M.length + 1 := by simp
  generalize M ++ [AObj.cells [.int .i64 (1 + 2 * s + 3 * p), .slice none 0 0, .int .i64 0, .bool false, .int .u64 0, .int .i64 0] ⟨false, 0⟩] = M1 at gf sf lf ⊢
  have g9 := cells_new M1 [.pointer none] 0
  have s9 := same_app M1 [AObj.cells [.pointer none] ⟨false, 0⟩]
  have l9 : (M1 ++ [AObj.cells [.pointer none] ⟨false, 0⟩]).length = M1.length + 1 := by simp
  generalize M1 ++ [AObj.cells [.pointer none] ⟨false, 0⟩] = M2 at g9 s9 l9 ⊢
  obtain ⟨M3, w1, w2, w3, w4⟩ := g9.wr (o := 0) (vs := [.pointer (some ⟨M.length, 0, none⟩)]) (by simp)
  have w2' : Cells M3 M1.length [.pointer (some ⟨M.length, 0, none⟩)] := by simpa [wrL] using w2
  have t3 : Same M M3 [] := ((sf.trans s9).trans w3).mono' (fun b hb hl => by simp at hb ⊢; omega)
  have f3 : Cells M3 M.length _ := (gf.same s9 (by simp)).same w3 (by simp; omega)
  have h3' := h3.same t3 (by simp)
  have y0' : M3.ld x3 0 = some (.int .i64 p) := h3'.ld 0
  have y1' : M3.ld x3 1 = some (.int .i64 s) := h3'.ld 1
  have l3 : M3.length = M.length + 2 := by omega
  rw [bX w1, bLI y0', bLI y1', L_call81, E81]
  have ga := cells_new M3 [.int .i64 p, .int .i64 s] 0
  have sa := same_app M3 [AObj.cells [.int .i64 p, .int .i64 s] ⟨false, 0⟩]
  have la : (M3 ++ [AObj.cells [.int .i64 p, .int .i64 s] ⟨false, 0⟩]).length = M3.length + 1 := by simp
  generalize M3 ++ [AObj.cells [.int .i64 p, .int .i64 s] ⟨false, 0⟩] = M4 at ga sa la ⊢
  have gb := cells_new M4 [.int .i64 st] 0
  have sb := same_app M4 [AObj.cells [.int .i64 st] ⟨false, 0⟩]
  have lb : (M4 ++ [AObj.cells [.int .i64 st] ⟨false, 0⟩]).length = M4.length + 1 := by simp
  generalize M4 ++ [AObj.cells [.int .i64 st] ⟨false, 0⟩] = M5 at gb sb lb ⊢
  have gc := cells_new M5 [.slice q es.length qc] 0
  have sc := same_app M5 [AObj.cells [.slice q es.length qc] ⟨false, 0⟩]
  have lc : (M5 ++ [AObj.cells [.slice q es.length qc] ⟨false, 0⟩]).length = M5.length + 1 := by simp
  generalize M5 ++ [AObj.cells [.slice q es.length qc] ⟨false, 0⟩] = M6 at gc sc lc ⊢
  simp only [Option.bind_some, anyOf?, leafV, if_true, funK_func, List.nil_append, List.cons_append]
  generalize hu : (Value.func (.func 86) #[] #[.pointer (some ⟨M3.length, 0, none⟩), .pointer (some ⟨M4.length, 0, none⟩), .pointer (some ⟨M5.length, 0, none⟩)]) = u
  have gl : (M6 ++ [AObj.loop (lo62_39 .ready none M1.length u)])[M6.length]? = some (.loop (lo62_39 .ready none M1.length u)) := get_new _ _
  have sl := same_app M6 [AObj.loop (lo62_39 .ready none M1.length u)]
  have ll : (M6 ++ [AObj.loop (lo62_39 .ready none M1.length u)]).length = M6.length + 1 := by simp
  generalize M6 ++ [AObj.loop (lo62_39 .ready none M1.length u)] = M7 at gl sl ll ⊢
  have t37 : Same M3 M7 [] := (((sa.trans sb).trans sc).trans sl).mono (by simp)
  have t7 : Same M M7 [] := (t3.trans t37).mono (by simp)
  have hx3 := h3.lt
  obtain ⟨z, hz⟩ : ∃ z, es = [] ∨ (q = some ⟨z, 0, none⟩ ∧ Rd M z (es.flatMap encE)) := by
    by_cases h0 : 0 < es.length
    · obtain ⟨z, h1, h2⟩ := hq.2 h0
      exact ⟨z, .inr ⟨h1, h2⟩⟩
    · exact ⟨0, .inl (List.length_eq_zero_iff.1 (by omega))⟩
  have hI : NwI M6.length M.length M1.length u (1 + 2 * s + 3 * p) M7 ([(M3.length, [.int .i64 p, .int .i64 s]), (M4.length, [.int .i64 st]), (M5.length, [.slice q es.length qc])] ++ (if es = [] then [] else [(z, es.flatMap encE)])) [] M7 := by
    refine ⟨gl, ⟨none, 0, ?_, Slc.nil _ _ _, by simp⟩, ((w2'.same t37 (by simp)).rd), fun k hk => ?_, .refl _ _, by omega, by omega, by omega⟩
    · exact f3.same t37 (by simp)
    · simp only [List.mem_append, List.mem_cons, List.not_mem_nil, or_false] at hk
      rcases hk with (rfl | rfl | rfl) | hk
      · exact ⟨(((ga.same sb (by simp)).same sc (by simp)).same sl (by simp)).rd, by simp only; omega, by simp only; omega⟩
      · exact ⟨((gb.same sc (by simp)).same sl (by simp)).rd, by simp only; omega, by simp only; omega⟩
      · exact ⟨(gc.same sl (by simp)).rd, by simp only; omega, by simp only; omega⟩
      · by_cases h0 : es = []
        · rw [if_pos h0] at hk; simp at hk
        · rw [if_neg h0] at hk
          simp at hk
          subst hk
          have hzr := (hz.resolve_left h0).2
          have := hzr.lt
          exact ⟨hzr.same t7 (by simp), by simp only; omega, by simp only; omega⟩
  obtain ⟨M8, r1, r2⟩ := adds_spec (z := z) (qc := qc) (q := q) (x1 := M3.length) (x2 := M4.length) (x3 := M5.length) hr hst (fun e h => ⟨(he e h).1, (he e h).2.1⟩) hes (by simp) (by simp) (by simp) (by
    by_cases h0 : es = []
    · exact .inl h0
    · exact .inr ⟨(hz.resolve_left h0).1, by simp [h0]⟩) hI
  obtain ⟨o, c, o1, o2, o3⟩ := r2.out
  have n1 : List.length M6 ≠ List.length M := by omega
  have sd := same_set M8 M6.length .dead
  have h9 := r2.h9.same sd (by simp; omega)
  have y9 : AMem.ld (M8.set M6.length .dead) M1.length 0 = some (.pointer (some ⟨M.length, 0, none⟩)) := h9.ld 0
  have al := esAdds_len s es
  refine ⟨M8.set M6.length .dead, M.length, o, c, ?_, ⟨?_, ?_, ?_, ?_, ?_⟩, ?_, Nat.le_refl _, ?_⟩
  · rw [bX r1]
    rw [rangeK_normal r2.lp (by simp [lo62_39]) rfl, P62_43_eq, bLP y9]
  · exact o1.same sd (by simp; omega)
  · refine ⟨rfl, fun h0 => ?_⟩
    obtain ⟨a, ha, hc⟩ := o2.pos h0
    subst ha
    exact ⟨a, rfl, (hc.same sd (by simp; exact (o3 a (by simp)).2.2.1)).rd⟩
  · exact fun b hb => (o3 b hb).2.1
  · simp [flNew]
  · simp only [flNew, flAdds, List.length_cons, List.length_append, List.length_nil]; omega
  · refine ((t7.trans r2.same).trans sd).mono' fun b hb hl => ?_
    simp at hb ⊢; omega
  · intro b hb
    have := (o3 b hb).1
    omega
theorem new_loop {x3 : Nat} {p s st : Int} {es : List En} {q : Option Addr} {qc : Nat} (hr : Rt p s) (hst : 0 ≤ st) : ∀ (d j : Nat) (M : AMem), j + d = es.length → es.length ≤ 4096 → Rd M x3 [.int .i64 p, .int .i64 s] → RdL M encE q es.length es →
    ∃ M', Same M M' [] ∧ P62_14 LL st q es.length qc x3 q es.length qc (es.length : Int) (j : Int) M = if ∀ e ∈ es.drop j, 0 ≤ e.px ∧ e.px < p ∧ Int.tmod e.px s = st then P62_33 LL st q es.length qc x3 M' else some (.pointer none, M') := by
  intro d
  induction d with
  | zero =>
    intro j M hj hes h3 hq
    refine ⟨M, .refl _ _, ?_⟩
    have hn : ∀ e ∈ es.drop j, 0 ≤ e.px ∧ e.px < p ∧ Int.tmod e.px s = st := by rw [List.drop_eq_nil_of_le (by omega)]; simp
    rw [P62_14_eq LL L_loop, ifDn (by omega), if_pos hn]
  | succ d ih =>
    intro j M hj hes h3 hq
    rw [P62_14_eq LL L_loop, ifD (by omega)]
    obtain ⟨z, rfl, hz⟩ := hq.2 (by omega)
    have hjl : j < es.length := by omega
    obtain ⟨e, hej⟩ : ∃ e, es[j]? = some e := ⟨_, gee hjl⟩
    obtain ⟨l0, l1, l2, l3⟩ := ent_ld hz hej
    have s1 := same_app M [AObj.cells [.int .i64 0, .int .u64 0, .int .u64 0, .int .u64 0] ⟨false, 0⟩]
    have g1 := cells_new M [.int .i64 0, .int .u64 0, .int .u64 0, .int .u64 0] 0
    obtain ⟨M1, w1, w2, w3, w4⟩ := g1.wr (o := 0) (vs := encE e) (by simp [encE])
    unfold encE at w1 w2
    have w2' : Cells M1 M.length (encE e) := by simpa [wrL, encE] using w2
    have t1 : Same M M1 [] := (s1.trans w3).mono' (by simp)
    have h3' := h3.same t1 (by simp)
    have u0 : M1.ld M.length 0 = some (.int .i64 e.px) := w2'.ld 0
    have y0 : M1.ld x3 0 = some (.int .i64 p) := h3'.ld 0
    have y1 : M1.ld x3 1 = some (.int .i64 s) := h3'.ld 1
    have hw : IntKind.wrap .i64 ((j : Int) + 1) = ((j + 1 : Nat) : Int) := by rw [w64 (by omega)]; rfl
    have hg : (0 : Int) ≤ (j : Int) ∧ (j : Int) < Int.ofNat es.length := by rw [ofN]; omega
    have hd : es.drop j = e :: es.drop (j + 1) := by rw [List.drop_eq_getElem_cons hjl]; congr 1; exact (ges.1 hej).2
    obtain ⟨_, k⟩ := stripe_spec p s e.px
    simp only [↓if_pos hg, Nat.zero_add, Int.toNat_natCast, ↓bLI l0, ↓bLI l1, ↓bLI l2, ↓bLI l3, ↓bX w1, ↓bLI u0, ↓bLI y0, ↓bLI y1]
    rw [bX k, bI]
    by_cases c : 0 ≤ e.px ∧ e.px < p ∧ Int.tmod e.px s = st
    · have e1 : (if Rt p s ∧ 0 ≤ e.px ∧ e.px < p then Int.tmod e.px s else -1) = st := by rw [if_pos ⟨hr, c.1, c.2.1⟩]; exact c.2.2
      rw [e1, bne_self_eq_false, ifF, P62_32_eq, hw]
      obtain ⟨M', k1, k2⟩ := ih (j + 1) M1 (by omega) hes h3' (hq.same t1 (by simp))
      refine ⟨M', (t1.trans k1).mono (by simp), ?_⟩
      rw [k2, hd]
      simp only [fmc, c, and_self, true_and]
    · refine ⟨M1, t1, ?_⟩
      have hno : ¬ ∀ e ∈ es.drop j, 0 ≤ e.px ∧ e.px < p ∧ Int.tmod e.px s = st := by rw [hd]; simp only [fmc]; exact fun h => c h.1
      have hne : ((if Rt p s ∧ 0 ≤ e.px ∧ e.px < p then Int.tmod e.px s else -1) != st) = true := by
        rw [bne_iff_ne]
        split
        · rename_i hh; exact fun h => c ⟨hh.2.1, hh.2.2, h⟩
        · omega
      rw [hne, ifT, if_neg hno]
theorem fnew_spec {p s st : Int} {es : List En} {q : Option Addr} {qc : Nat} {M : AMem} (hq : RdL M encE q es.length es) (hl : es.length ≤ 1000000) :
    (FlOk p s st es → ∃ M' f o c, LL.call 62 [lay p s, .int .i64 st, .slice q es.length qc] M = some (pt f, M') ∧ IsFl M' f o c (flNew p s st es) ∧ Same M M' [] ∧ M.length ≤ f ∧ ∀ b ∈ blk o, M.length ≤ b) ∧
    (¬ FlOk p s st es → ∃ M', LL.call 62 [lay p s, .int .i64 st, .slice q es.length qc] M = some (.pointer none, M') ∧ Same M M' []) := by
  rw [L_call62, E62]
  have g1 := cells_new M [.int .i64 p, .int .i64 s] 0
  have s1 := same_app M [AObj.cells [.int .i64 p, .int .i64 s] ⟨false, 0⟩]
  have l1 : (M ++ [AObj.cells [.int .i64 p, .int .i64 s] ⟨false, 0⟩]).length = M.length + 1 := by simp
  generalize M ++ [AObj.cells [.int .i64 p, .int .i64 s] ⟨false, 0⟩] = M1 at g1 s1 l1 ⊢
  have y0 : M1.ld M.length 0 = some (.int .i64 p) := g1.ld 0
  have y1 : M1.ld M.length 1 = some (.int .i64 s) := g1.ld 1
  obtain ⟨_, k⟩ := begun_spec p s st (by by_cases h : Rt p s; exact .inl h.2.2.2; exact .inr h)
  rw [bLI y0, bLI y1, bX k, bI]
  by_cases hst : Rt p s ∧ 0 ≤ st ∧ st < s
  · rw [if_pos hst, ifDn (by omega)]
    by_cases hes : es.length ≤ 4096
    · rw [ifDn (by rw [ofN]; omega)]
      obtain ⟨M2, k1, k2⟩ := new_loop (x3 := M.length) (qc := qc) hst.1 hst.2.1 es.length 0 M1 (by omega) hes g1.rd (hq.same s1 (by simp))
      rw [List.drop_zero] at k2
      rw [ofN, show (0 : Int) = ((0 : Nat) : Int) from rfl, k2]
      have t2 := (s1.trans k1).mono (T := []) (by simp)
      by_cases c : ∀ e ∈ es, 0 ≤ e.px ∧ e.px < p ∧ Int.tmod e.px s = st
      · rw [if_pos c]
        refine ⟨fun hok => ?_, fun h => absurd ⟨hst, hes, c⟩ h⟩
        obtain ⟨M', f, o, c', e1, e2, e3, e4, e5⟩ := new_end (qc := qc) hok (g1.rd.same k1 (by simp)) (hq.same t2 (by simp))
        have := t2.le
        exact ⟨M', f, o, c', e1, e2, (t2.trans e3).mono (by simp), by omega, fun b hb => by have := e5 b hb; omega⟩
      · rw [if_neg c]
        exact ⟨fun hok => absurd hok.2.2 c, fun _ => ⟨M2, rfl, t2⟩⟩
    · rw [ifD (by rw [ofN]; omega)]
      exact ⟨fun hok => absurd hok.2.1 hes, fun _ => ⟨M1, rfl, s1⟩⟩
  · rw [if_neg hst, ifD (by omega)]
    exact ⟨fun hok => absurd hok.1 hst, fun _ => ⟨M1, rfl, s1⟩⟩
def fOver (L : List Int) (s : FS) : Bool := decide (s.adds.length = s.nx ∨ (L.length : Int) ≠ s.size)
def fAdd (s : FS) : Int × Int := s.adds.getD s.nx (0, 0)
def fWon (L : List Int) (s : FS) : Bool := !fOver L s && (s.rd && casB L (fAdd s).1 s.seen)
def fS (L : List Int) (s : FS) : FS :=
  if fOver L s = true then s else if s.rd = true then (if casB L (fAdd s).1 s.seen = true then { s with rd := false, nx := s.nx + 1 } else { s with rd := false, lost := s.lost + 1 })
  else { s with rd := decide (inR L (fAdd s).1), seen := getI L (fAdd s).1 }
def fL (L : List Int) (s : FS) : List Int := if fWon L s = true then L.set (fAdd s).1.toNat (IntKind.wrap .u64 (s.seen + (fAdd s).2)) else L
def fW (L : List Int) (s : FS) : Nat := if fWon L s = true then 1 else 0
def fT (L : List Int) (s : FS) : Nat := if fOver L s = true then 0 else 1
theorem fl_step {M : AMem} {f b a : Nat} {p : Option Addr} {c : Nat} {s : FS} {L : List Int} {st wi : Nat} (h : IsFl M f p c s) (hm : IsMem M b a L st wi) (hst : st < 1000000000000000000) (hwi : wi < 1000000000000000000) (hlo : s.lost < 1000000000000000000) (hd : f ≠ b ∧ f ≠ a ∧ ∀ x ∈ blk p, x ≠ b ∧ x ≠ a) :
    ∃ M', LL.call 59 [pt f, pt b] M = some (.bool (!fOver L s), M') ∧ IsFl M' f p c (fS L s) ∧ IsMem M' b a (fL L s) (st + fT L s) (wi + fW L s) ∧ Same M M' [f, b, a] := by
  by_cases ho : s.adds.length = s.nx ∨ (L.length : Int) ≠ s.size
  · have e : fOver L s = true := decide_eq_true ho
    have e2 : fWon L s = false := by simp [fWon, e]
    refine ⟨M, ?_, ?_, ?_, .refl _ _⟩
    · rw [e]; exact step_over h hm ho
    · unfold fS; rw [if_pos e]; exact h
    · rw [show fT L s = 0 by simp [fT, e], show fL L s = L by simp [fL, e2], show fW L s = 0 by simp [fW, e2]]; exact hm
  · have e : fOver L s = false := decide_eq_false ho
    have hn := h.nx
    have hlt : s.nx < s.adds.length := by omega
    have hx : s.adds[s.nx]? = some (fAdd s) := by unfold fAdd; rw [List.getD_eq_getElem?_getD, gee hlt]; rfl
    have hsz : (L.length : Int) = s.size := by omega
    cases hr : s.rd with
    | false =>
      obtain ⟨M', k1, k2, k3, k4⟩ := step_read h hm hst hd hx hsz hr
      have e2 : fWon L s = false := by simp [fWon, hr]
      refine ⟨M', ?_, ?_, ?_, k4.mono (by intro x hx; simp at hx ⊢; rcases hx with h | h <;> simp [h])⟩
      · rw [e]; exact k1
      · unfold fS; rw [if_neg (by simp [e]), if_neg (by simp [hr])]; exact k2
      · rw [show fT L s = 1 by simp [fT, e], show fL L s = L by simp [fL, e2], show fW L s = 0 by simp [fW, e2]]; exact k3
    | true =>
      obtain ⟨M', k1, k2, k3, k4⟩ := step_cas h hm hst hwi hlo hd hx hsz hr
      refine ⟨M', ?_, ?_, ?_, k4⟩
      · rw [e]; exact k1
      · unfold fS; rw [if_neg (by simp [e]), if_pos hr]; exact k2
      · have e2 : fWon L s = casB L (fAdd s).1 s.seen := by simp [fWon, e, hr]
        rw [show fT L s = 1 by simp [fT, e]]
        unfold fL fW
        rw [e2]
        unfold casL at k3
        cases hc : casB L (fAdd s).1 s.seen with
        | true => rw [hc] at k3; simpa using k3
        | false => rw [hc] at k3; simpa using k3
theorem IsFl.lt {M : AMem} {f : Nat} {p : Option Addr} {c : Nat} {s : FS} (h : IsFl M f p c s) (h0 : 0 < s.adds.length) : ∀ b ∈ f :: blk p, b < M.length := by
  intro b hb
  rcases List.mem_cons.1 hb with rfl | hb
  · exact h.hd.lt
  · exact h.ad.lt h0 b hb
structure Sp where
  px : Int
  r : Int
  g : Int
  b : Int
def encS (x : Sp) : List Value := [.int .i64 x.px, .int .i64 x.r, .int .i64 x.g, .int .i64 x.b]
theorem encS_length (x : Sp) : (encS x).length = 4 := rfl
structure WP where
  p : Int
  s : Int
  size : Int
  room : Int
  tb : List (List Sp)
def WP.all (P : WP) : Int := (P.tb.length : Int)
structure WS where
  fr : Int
  to : Int
  pl : List Sp
  es : List En
  ks : List Int
  has : Bool
  st : Int
  en : List En
  fs : FS
  cs : Bt.CS
  over : Bool
  lost : Nat
structure Ev where
  kind : Int
  part : Int
  stripe : Int
  begun : Bool
  ended : Bool
def encV (e : Ev) : List Value := [.int .i64 e.kind, .int .i64 e.part, .int .i64 e.stripe, .bool e.begun, .bool e.ended]
def Ev.zero : Ev := ⟨0, 0, 0, false, false⟩
def putAll (room : Int) : List Sp → List En → List Sp × List En
  | [], es => ([], es)
  | x :: l, es => match putE room x.px x.r x.g x.b es with
    | some es' => putAll room l es'
    | none => (x :: l, es)
def beginW (P : WP) (σ : WS) : WS :=
  { σ with has := true, st := σ.ks.headD 0, ks := σ.ks.tail, en := σ.es.filter (inS P.s (σ.ks.headD 0)), es := σ.es.filter (outS P.s (σ.ks.headD 0)), fs := flNew P.p P.s (σ.ks.headD 0) (σ.es.filter (inS P.s (σ.ks.headD 0))) }
def endedF (f : FS) : Bool := decide (f.adds.length = f.nx)
structure WR where
  σ : WS
  L : List Int
  ev : Ev
  dt : Nat
def flushW (L : List Int) (σ : WS) : WR :=
  ⟨{ σ with fs := fS L σ.fs, lost := σ.lost + (fS L σ.fs).lost - σ.fs.lost, has := !endedF (fS L σ.fs) }, fL L σ.fs, ⟨3, 0, σ.st, decide (σ.fs.nx = 0) && decide (0 < (fS L σ.fs).nx), endedF (fS L σ.fs)⟩, 1⟩
def claimW (P : WP) (L : List Int) (σ : WS) : WR :=
  let c := Bt.stepS P.all P.size (getI L 0) σ.cs
  let σ1 := { σ with lost := σ.lost + c.lost - σ.cs.lost }
  ⟨if c.ph < 2 then { σ1 with cs := c } else if c.fr < c.to then { σ1 with fr := c.fr, to := c.to, cs := .init } else { σ1 with cs := c, over := true }, Bt.stepL P.all P.size L σ.cs, ⟨1, 0, 0, false, false⟩, 1⟩
def stripesW (P : WP) (σ : WS) : WS := { σ with ks := strs P.s σ.es P.s.toNat }
def stepW (P : WP) (L : List Int) (σ : WS) : WR :=
  if σ.has then flushW L σ
  else if σ.ks ≠ [] then flushW L (beginW P σ)
  else
    let σ1 := { σ with pl := (putAll P.room σ.pl σ.es).1, es := (putAll P.room σ.pl σ.es).2 }
    if σ1.pl ≠ [] then flushW L (beginW P (stripesW P σ1))
    else if σ1.fr < σ1.to then ⟨{ σ1 with pl := P.tb.getD σ1.fr.toNat [], fr := σ1.fr + 1 }, L, ⟨2, σ1.fr, 0, false, false⟩, 0⟩
    else if !σ1.over then claimW P L σ1
    else if σ1.es ≠ [] then flushW L (beginW P (stripesW P σ1))
    else ⟨σ1, L, .zero, 0⟩
def doneW (σ : WS) : Bool := !σ.has && (σ.ks.isEmpty && (σ.pl.isEmpty && (decide (σ.fr ≥ σ.to) && (σ.over && σ.es.isEmpty))))
theorem compact_mem {zs : List Int} {x : Int} : x ∈ zs → x ∈ Lib.compact zs := by
  intro h
  obtain ⟨j, hj⟩ := List.getElem?_of_mem h
  have key : ∀ j : Nat, zs[j]? = some x → ∃ g, g < zs.length ∧ Lib.keeps zs.toArray g = true ∧ zs[g]? = some x := fun j => by
    induction j with
    | zero =>
      intro h0
      exact ⟨0, (ges.1 h0).1, by simp [Lib.keeps], h0⟩
    | succ j ih =>
      intro hj
      have hl := (ges.1 hj).1
      by_cases hk : Lib.keeps zs.toArray (j + 1) = true
      · exact ⟨j + 1, hl, hk, hj⟩
      · refine ih ?_
        have hk' : Lib.keeps zs.toArray (j + 1) = false := by simpa using hk
        unfold Lib.keeps at hk'
        simp only [Nat.add_eq_zero_iff, Nat.one_ne_zero, and_false, decide_false, Bool.false_or, Nat.add_sub_cancel] at hk'
        have e1 : zs.toArray[j + 1]! = x := by
          rw [getElem!_pos zs.toArray (j + 1) (by simpa using hl)]
          have := (ges.1 hj).2
          simpa using this
        have e2 : zs.toArray[j]! = zs[j]'(by omega) := by
          rw [getElem!_pos zs.toArray j (by simp; omega)]; simp
        rw [e1, e2] at hk'
        rw [gee (by omega)]
        congr 1
        symm
        simpa using hk'
  obtain ⟨g, g1, g2, g3⟩ := key j hj
  unfold Lib.compact Lib.compactUpTo
  refine List.mem_map.2 ⟨g, List.mem_filter.2 ⟨List.mem_range.2 g1, g2⟩, ?_⟩
  rw [getElem!_pos zs.toArray g (by simpa using g1)]
  have := (ges.1 g3).2
  simpa using this
theorem wrL_app1 : ∀ (V A Z : List Value), V.length = Z.length → wrL (A ++ Z) A.length V = A ++ V
  | [], A, [], h => by simp [wrL]
  | [], A, z :: Z, h => by simp at h
  | v :: V, A, [], h => by simp at h
  | v :: V, A, z :: Z, h => by
    have := wrL_app1 V (A ++ [v]) Z (by simpa using h)
    simp only [wrL]
    rw [show (A ++ z :: Z).set A.length v = A ++ v :: Z by simp]
    simpa using this
theorem wrL_app0 (V Z : List Value) (h : V.length = Z.length) : wrL Z 0 V = V := by simpa using wrL_app1 V [] Z h
theorem intsOf_ints (k : IntKind) : ∀ l : List Int, intsOf k (ints k l) = some l
  | [] => rfl
  | x :: l => by
    have := intsOf_ints k l
    unfold ints at this ⊢
    simp only [List.map_cons, intsOf, if_true, this, Option.map_some]
theorem bT0 {β : Type} (f : List Value → Option β) : Option.bind (tupOf? 0 (.tuple #[])) f = f [] := rfl
def stp (s : Int) (es : List En) : List Int := es.map fun e => Int.tmod e.px s
theorem stripes_loop {M0 : AMem} {b mp : Nat} {q : Option Addr} {qc : Nat} {p s room : Int} {es : List En} (h : IsBuf M0 b mp q qc p s room es) :
    ∀ (d i : Nat) (M : AMem) (o : Option Addr) (oc : Nat), i + d = es.length → Slc M 1 o i oc (ints .i64 (stp s (es.take i))) → Same M0 M [] → (∀ z ∈ blk o, M0.length ≤ z) → (i = 0 → o = none ∧ oc = 0) →
    ∃ M' o' oc', P40_16 LL (some ⟨b, 0, none⟩) o i oc q es.length qc (es.length : Int) (i : Int) M = P40_29 LL o' es.length oc' M' ∧ Slc M' 1 o' es.length oc' (ints .i64 (stp s es)) ∧ Same M0 M' [] ∧ (∀ z ∈ blk o', M0.length ≤ z) ∧ (es.length = 0 → o' = none ∧ oc' = 0) := by
  have hrm := h.rm
  have hlt := h.lt
  intro d
  induction d with
  | zero =>
    intro i M o oc hi hs t ho h0
    obtain rfl : i = es.length := by omega
    rw [List.take_length] at hs
    rw [P40_16_eq LL L_loop, ifDn (by omega)]
    exact ⟨M, o, oc, rfl, hs, t, ho, h0⟩
  | succ d ih =>
    intro i M o oc hi hs t ho h0
    have hil : i < es.length := by omega
    obtain ⟨e, he⟩ : ∃ e, es[i]? = some e := ⟨_, gee hil⟩
    have hem := List.mem_of_getElem? he
    have hpx := h.px e hem
    have ht : es.take (i + 1) = es.take i ++ [e] := by rw [List.take_add_one, he]; rfl
    have hg : (0 : Int) ≤ (i : Int) ∧ (i : Int) < Int.ofNat es.length := by rw [ofN]; omega
    have hw : IntKind.wrap .i64 ((i : Int) + 1) = ((i + 1 : Nat) : Int) := by rw [w64 (by omega)]; rfl
    have hM := h.same t (by simp)
    obtain ⟨z, rfl, hz⟩ := hM.sl.pos (by omega)
    obtain ⟨l0, l1, l2, l3⟩ := ent_ld hz.rd he
    have leM := t.le
    have s1 := same_app M [AObj.cells [.int .i64 0, .int .u64 0, .int .u64 0, .int .u64 0] ⟨false, 0⟩]
    have g1 := cells_new M [.int .i64 0, .int .u64 0, .int .u64 0, .int .u64 0] 0
    obtain ⟨M1, w1, w2, w3, w4⟩ := g1.wr (o := 0) (vs := encE e) (by simp [encE])
    have w2' : Cells M1 M.length (encE e) := by simpa [wrL, encE] using w2
    have hM1l : M1.length = M.length + 1 := by rw [w4]; simp
    have t1 : Same M M1 [] := (s1.trans w3).mono' (fun b hb hl => by simp at hb; omega)
    have v0 : M1.ld M.length 0 = some (.int .i64 e.px) := w2'.ld 0
    have hd1 := hM.hd.same t1 (by simp)
    have p0 : M1.ld b 0 = some (.int .i64 p) := hd1.ld 0
    have p1 : M1.ld b 1 = some (.int .i64 s) := hd1.ld 1
    obtain ⟨_, ks⟩ := stripe_spec p s e.px
    have e1 : (if Rt p s ∧ 0 ≤ e.px ∧ e.px < p then Int.tmod e.px s else -1) = Int.tmod e.px s := if_pos ⟨h.rt, hpx⟩
    rw [e1] at ks
    obtain ⟨M2, c1, c2, c3, c4⟩ := append_row (bytes := 8) (v := 0) (new := [.int .i64 (Int.tmod e.px s)]) (m := 1) (hs.same t1 (by simp)) rfl (by omega) (by omega)
    have hrow := rowOf_new M1 1 1 [.int .i64 (Int.tmod e.px s)] 0 1 rfl
    have t2 : Same M0 M2 [] := ((t.trans t1).trans c3).mono' fun x hx hl => by
      simp only [List.nil_append] at hx
      have := ho x hx; omega
    have hst : stp s (es.take (i + 1)) = stp s (es.take i) ++ [Int.tmod e.px s] := by rw [ht]; simp [stp]
    obtain ⟨M', o', oc', k1, k2, k3, k4, k5⟩ := ih (i + 1) M2 (some ⟨M1.length + 1, 0, none⟩) 1 (by omega) (by rw [hst]; simpa [ints] using c2) t2 (by simp; omega) (by omega)
    refine ⟨M', o', oc', ?_, k2, k3, k4, k5⟩
    unfold encE at w1
    rw [P40_16_eq LL L_loop, ifD (by omega)]
    simp only [↓if_pos hg, Nat.zero_add, Int.toNat_natCast]
    rw [bLI l0, bLI l1, bLI l2, bLI l3, bX w1, bLI p0, bLI p1, bLI v0, bX ks, bI, bX hrow, c1, P40_28_eq, hw]
    exact k1
theorem stripes_all {M : AMem} {b mp : Nat} {q : Option Addr} {qc : Nat} {p s room : Int} {es : List En} (h : IsBuf M b mp q qc p s room es) :
    ∃ M' o oc ks, LL.call 40 [bp b] M = some (.slice o ks.length oc, M') ∧ Same M M' [] ∧ (∀ z ∈ blk o, M.length ≤ z) ∧ ks = Lib.compact (isort (stp s es)) ∧ ks.length ≤ es.length ∧ (0 < ks.length → ∃ a cs, o = some ⟨a, 0, none⟩ ∧ Rd M' a cs ∧ ∀ i, i < ks.length → cs[i]? = (ints .i64 ks)[i]?) := by
  rw [L_call40, E40, bX (bgiven h), bB, ifNT]
  have l4 : M.ld b 4 = some (.slice q es.length qc) := h.hd.ld 4
  have hrm := h.rm
  simp only [Nat.zero_add]
  rw [bLS l4]
  obtain ⟨M1, o, oc, e, k1, k2, k3, k4⟩ := stripes_loop h es.length 0 M none 0 (by omega) (by simpa [stp, ints] using Slc.nil M 1 0) (.refl _ _) (by simp) (fun _ => ⟨rfl, rfl⟩)
  have e' : P40_16 LL (some ⟨b, 0, none⟩) none 0 0 q es.length qc (Int.ofNat es.length) 0 M = _ := e
  simp only
  rw [e', P40_29_eq, L_call64]
  by_cases h0 : es.length = 0
  · obtain ⟨rfl, rfl⟩ := k4 h0
    rw [h0]
    have es0 : es = [] := List.eq_nil_of_length_eq_zero h0
    have e1 : sortH [.slice none 0 0] M1 = some (.tuple #[], M1) := rfl
    have e2 : compactH [.slice none 0 0] M1 = some (.slice none 0 0, M1) := rfl
    rw [bX e1, bT0]
    rw [L_call65, bX e2, bS]
    exact ⟨M1, none, 0, [], rfl, k2, by simp, by rw [es0]; rfl, by simp, by simp⟩
  · obtain ⟨a, rfl, hz⟩ := k1.pos (by omega)
    have hsl : (stp s es).length = es.length := by simp [stp]
    have hoc : oc = 1 := by
      rcases k1.2 with ⟨e1, _⟩ | ⟨a, _, e2, _⟩
      · cases e1
      · exact e2
    have hrd : M1.rd a 0 es.length = some (ints .i64 (stp s es)) := by
      rw [hz.rd' (by simp [stp]), List.drop_zero, List.take_of_length_le (by simp [stp])]
    have hil : (isort (stp s es)).length = es.length := by rw [(isort_perm _).length_eq, hsl]
    obtain ⟨M2, w1, w2, w3, w4⟩ := hz.wr (o := 0) (vs := (isort (stp s es)).map (Value.int .i64)) (by simp [hil, hsl])
    have w2' : Cells M2 a (ints .i64 (isort (stp s es))) := by
      have := wrL_app0 ((isort (stp s es)).map (Value.int .i64)) (ints .i64 (stp s es)) (by simp [hil, hsl])
      rw [this] at w2
      exact w2
    have e1 : sortH [.slice (some ⟨a, 0, none⟩) es.length oc] M1 = some (.tuple #[], M2) := by
      unfold sortH
      simp only
      rw [if_neg (by omega), hrd, Option.bind_some, intsOf_ints, Option.bind_some, w1]
      rfl
    have hrd2 : M2.rd a 0 es.length = some (ints .i64 (isort (stp s es))) := by
      rw [w2'.rd' (by simp [hil]), List.drop_zero, List.take_of_length_le (by simp [hil])]
    have hcl := compact_len (isort (stp s es))
    obtain ⟨M3, x1, x2, x3, x4⟩ := w2'.wr (o := 0) (vs := (Lib.compact (isort (stp s es)) ++ List.replicate ((isort (stp s es)).length - (Lib.compact (isort (stp s es))).length) 0).map (Value.int .i64)) (by simp; omega)
    have x2' : Cells M3 a (ints .i64 (Lib.compact (isort (stp s es)) ++ List.replicate ((isort (stp s es)).length - (Lib.compact (isort (stp s es))).length) 0)) := by
      have := wrL_app0 ((Lib.compact (isort (stp s es)) ++ List.replicate ((isort (stp s es)).length - (Lib.compact (isort (stp s es))).length) 0).map (Value.int .i64)) (ints .i64 (isort (stp s es))) (by simp; omega)
      rw [this] at x2
      exact x2
    have e2 : compactH [.slice (some ⟨a, 0, none⟩) es.length oc] M2 = some (.slice (some ⟨a, 0, none⟩) (Lib.compact (isort (stp s es))).length oc, M3) := by
      unfold compactH
      simp only
      rw [if_neg (by omega), hrd2, Option.bind_some, intsOf_ints, Option.bind_some, x1]
      rfl
    rw [bX e1, bT0]
    rw [L_call65, bX e2, bS]
    refine ⟨M3, some ⟨a, 0, none⟩, oc, Lib.compact (isort (stp s es)), rfl, ((k2.trans w3).trans x3).mono' (fun x hx hl => ?_), by simpa using k3, rfl, by omega, fun _ => ⟨a, _, rfl, x2'.rd, fun i hi => ?_⟩⟩
    · simp at hx
      have := k3 a (by simp); omega
    · unfold ints
      rw [List.map_append, List.getElem?_append_left (by simpa using hi)]
theorem lt_one : ∀ l k : List Int, l.Pairwise (· < ·) → k.Pairwise (· < ·) → (∀ x, x ∈ l ↔ x ∈ k) → l = k
  | [], [], _, _, _ => rfl
  | [], y :: k, _, _, h => by have := (h y).2 (by simp); simp at this
  | x :: l, [], _, _, h => by have := (h x).1 (by simp); simp at this
  | x :: l, y :: k, h1, h2, h => by
    obtain ⟨a1, a2⟩ := List.pairwise_cons.1 h1
    obtain ⟨b1, b2⟩ := List.pairwise_cons.1 h2
    have e : x = y := by
      rcases List.mem_cons.1 ((h x).1 (by simp)) with c | c
      · exact c
      · rcases List.mem_cons.1 ((h y).2 (by simp)) with d | d
        · exact d.symm
        · have := b1 x c; have := a1 y d; omega
    subst e
    rw [lt_one l k a2 b2 fun z => ⟨fun hz => ?_, fun hz => ?_⟩]
    · rcases List.mem_cons.1 ((h z).1 (by simp [hz])) with c | c
      · have := a1 z hz; omega
      · exact c
    · rcases List.mem_cons.1 ((h z).2 (by simp [hz])) with c | c
      · have := b1 z hz; omega
      · exact c
theorem arr_get (zs : List Int) {g : Nat} (h : g < zs.length) : zs.toArray[g]! = zs[g] := by
  rw [getElem!_pos zs.toArray g (by simpa using h)]; simp
theorem compact_lt {zs : List Int} (h : zs.Pairwise (· ≤ ·)) : (Lib.compact zs).Pairwise (· < ·) := by
  unfold Lib.compact Lib.compactUpTo
  rw [List.pairwise_map]
  refine (List.pairwise_lt_range.filter _).imp_of_mem fun {a b} ha hb hab => ?_
  obtain ⟨ha1, _⟩ := List.mem_filter.1 ha
  obtain ⟨hb1, hb2⟩ := List.mem_filter.1 hb
  have ha1 := List.mem_range.1 ha1
  have hb1 := List.mem_range.1 hb1
  rw [arr_get zs ha1, arr_get zs hb1]
  have p := List.pairwise_iff_getElem.1 h
  have c1 : zs[a] ≤ zs[b - 1]'(by omega) := by
    by_cases c : a = b - 1
    · subst c; exact Int.le_refl _
    · exact p a (b - 1) ha1 (by omega) (by omega)
  have c2 : zs[b - 1]'(by omega) ≤ zs[b] := p (b - 1) b (by omega) hb1 (by omega)
  have c3 : zs[b] ≠ zs[b - 1]'(by omega) := by
    unfold Lib.keeps at hb2
    rw [arr_get zs hb1, arr_get zs (show b - 1 < zs.length by omega)] at hb2
    have : b ≠ 0 := by omega
    simpa [this] using hb2
  omega
theorem mem_compact {zs : List Int} {x : Int} (h : x ∈ Lib.compact zs) : x ∈ zs := by
  unfold Lib.compact Lib.compactUpTo at h
  obtain ⟨g, h1, h2⟩ := List.mem_map.1 h
  have h3 := List.mem_range.1 (List.mem_filter.1 h1).1
  rw [arr_get zs h3] at h2
  rw [← h2]; exact List.getElem_mem h3
theorem strs_lt (s : Int) (es : List En) (n : Nat) : (strs s es n).Pairwise (· < ·) := by
  unfold strs
  exact List.Pairwise.filter _ (by
    rw [List.pairwise_map]
    exact List.pairwise_lt_range.imp fun {a b} h => by rw [ofN, ofN]; omega)
theorem stripes_eq {p s : Int} {es : List En} (hs : 0 < s) (he : ∀ e ∈ es, 0 ≤ e.px ∧ e.px < p) : Lib.compact (isort (stp s es)) = strs s es s.toNat := by
  refine lt_one _ _ (compact_lt (isort_sorted _)) (strs_lt _ _ _) fun x => ⟨fun h => ?_, fun h => ?_⟩
  · obtain ⟨e, h1, h2⟩ := List.mem_map.1 ((isort_perm _).mem_iff.1 (mem_compact h))
    have k1 := Int.tmod_nonneg s (he e h1).1
    have k2 := Int.tmod_lt_of_pos e.px hs
    unfold strs
    refine List.mem_filter.2 ⟨List.mem_map.2 ⟨x.toNat, List.mem_range.2 (by omega), by rw [ofN]; omega⟩, ?_⟩
    have : e ∈ es.filter (inS s x) := List.mem_filter.2 ⟨h1, decide_eq_true h2⟩
    cases hc : es.filter (inS s x) with
    | nil => rw [hc] at this; simp at this
    | cons => rfl
  · unfold strs at h
    obtain ⟨h1, h2⟩ := List.mem_filter.1 h
    refine compact_mem ((isort_perm _).mem_iff.2 ?_)
    cases hc : es.filter (inS s x) with
    | nil => rw [hc] at h2; simp at h2
    | cons e l =>
      have : e ∈ es.filter (inS s x) := by rw [hc]; simp
      obtain ⟨k1, k2⟩ := List.mem_filter.1 this
      exact List.mem_map.2 ⟨e, k1, of_decide_eq_true k2⟩
abbrev Cl := Nat → Nat × Nat
def Col (M : AMem) (ρ : Cl) (S : List Nat) (c : Nat × Nat) : Prop := ∀ z ∈ S, z < M.length ∧ ρ z = c
structure Ext (K : Nat × Nat → Prop) (ρ : Cl) (M : AMem) (ρ' : Cl) (M' : AMem) : Prop where
  le : M.length ≤ M'.length
  col : ∀ z, z < M.length → ρ' z = ρ z
  get : ∀ z, z < M.length → ¬ K (ρ z) → M'[z]? = M[z]?
section
variable {K : Nat × Nat → Prop} {ρ ρ' ρ'' : Cl} {M M' M'' : AMem}
theorem Ext.refl (K : Nat × Nat → Prop) (ρ : Cl) (M : AMem) : Ext K ρ M ρ M := ⟨Nat.le_refl _, fun _ _ => rfl, fun _ _ _ => rfl⟩
theorem Ext.trans (h : Ext K ρ M ρ' M') (k : Ext K ρ' M' ρ'' M'') : Ext K ρ M ρ'' M'' :=
  ⟨Nat.le_trans h.le k.le, fun z hz => by rw [k.col z (Nat.lt_of_lt_of_le hz h.le), h.col z hz], fun z hz hn => by
    rw [k.get z (Nat.lt_of_lt_of_le hz h.le) (by rw [h.col z hz]; exact hn), h.get z hz hn]⟩
theorem Ext.mono {K' : Nat × Nat → Prop} (h : Ext K ρ M ρ' M') (hk : ∀ c, K c → K' c) : Ext K' ρ M ρ' M' :=
  ⟨h.le, h.col, fun z hz hn => h.get z hz fun c => hn (hk _ c)⟩
theorem Ext.of {S : List Nat} (t : Same M M' S) (h : ∀ z ∈ S, z < M.length → K (ρ z)) : Ext K ρ M ρ M' :=
  ⟨t.le, fun _ _ => rfl, fun z hz hn => t.get z hz fun hm => hn (h z hm hz)⟩
def upd (ρ : Cl) (n : Nat) (g : Cl) : Cl := fun z => if z < n then ρ z else g z
theorem upd_lt {n : Nat} {g : Cl} {z : Nat} (h : z < n) : upd ρ n g z = ρ z := if_pos h
theorem upd_ge {n : Nat} {g : Cl} {z : Nat} (h : n ≤ z) : upd ρ n g z = g z := if_neg (by omega)
theorem Ext.upd {S : List Nat} (t : Same M M' S) (h : ∀ z ∈ S, z < M.length → K (ρ z)) (g : Cl) : Ext K ρ M (upd ρ M.length g) M' :=
  ⟨t.le, fun z hz => upd_lt hz, fun z hz hn => t.get z hz fun hm => hn (h z hm hz)⟩
open Classical in
theorem Ext.same (e : Ext K ρ M ρ' M') : ∃ S, Same M M' S ∧ ∀ z, z < M.length → ¬ K (ρ z) → z ∉ S :=
  ⟨(List.range M.length).filter fun z => decide (K (ρ z)), ⟨e.le, fun b hb hn => e.get b hb fun hk => hn (by simp [hb, hk])⟩, fun z hz hk hm => by
    simp at hm; exact hk hm.2⟩
theorem cells_ext {b : Nat} {cs : List Value} (h : Cells M b cs) (e : Ext K ρ M ρ' M') (hk : ¬ K (ρ b)) : Cells M' b cs := by
  obtain ⟨v, h'⟩ := h
  exact ⟨v, by rw [e.get b (lt_of_get h') hk, h']⟩
theorem rd_ext {b : Nat} {cs : List Value} (h : Rd M b cs) (e : Ext K ρ M ρ' M') (hk : ¬ K (ρ b)) : Rd M' b cs := by
  obtain ⟨v, h'⟩ := h
  exact ⟨v, by rw [e.get b (lt_of_get h') hk, h']⟩
theorem Col.ext {S : List Nat} {c : Nat × Nat} (h : Col M ρ S c) (e : Ext K ρ M ρ' M') : Col M' ρ' S c :=
  fun z hz => ⟨Nat.lt_of_lt_of_le (h z hz).1 e.le, by rw [e.col z (h z hz).1, (h z hz).2]⟩
theorem Col.nil (c : Nat × Nat) : Col M ρ [] c := fun z hz => by simp at hz
theorem Ext.free {S : List Nat} {c : Nat × Nat} {T : List Nat} (h : Col M ρ S c) (hT : ∀ z, z < M.length → ¬ K (ρ z) → z ∉ T) (hk : ¬ K c) : ∀ z ∈ S, z ∉ T :=
  fun z hz => hT z (h z hz).1 (by rw [(h z hz).2]; exact hk)
end
def View {α : Type} (enc : α → List Value) (n : Nat) (M : AMem) (p : Option Addr) (l : List α) : Prop :=
  l ≠ [] → ∃ b o cs, p = some ⟨b, o, none⟩ ∧ Rd M b cs ∧ ∀ i x j, l[i]? = some x → j < n → cs[o + i * n + j]? = (enc x)[j]?
section
variable {α : Type} {enc : α → List Value} {n : Nat} {M M' : AMem} {p : Option Addr} {l : List α}
theorem View.nil : View enc n M p [] := fun h => absurd rfl h
theorem View.same {S : List Nat} (h : View enc n M p l) (t : Same M M' S) (hS : ∀ z ∈ blk p, z ∉ S) : View enc n M' p l := fun h0 => by
  obtain ⟨b, o, cs, e, k1, k2⟩ := h h0
  exact ⟨b, o, cs, e, k1.same t (hS b (by rw [e]; simp)), k2⟩
theorem View.head {x : α} {r : List α} (h : View enc n M p (x :: r)) : ∃ b o, p = some ⟨b, o, none⟩ ∧ b < M.length ∧ ∀ j v, (enc x)[j]? = some v → j < n → M.ld b (o + j) = some v := by
  obtain ⟨b, o, cs, e, k1, k2⟩ := h (by simp)
  refine ⟨b, o, e, k1.lt, fun j v hv hj => ?_⟩
  have := k2 0 x j rfl hj
  rw [Nat.zero_mul, Nat.add_zero] at this
  rw [k1.ld, this, hv]
theorem View.tail {x : α} {r : List α} (h : View enc n M p (x :: r)) : View enc n M (Option.map (fun p => (⟨p.block, p.off + n, p.spot⟩ : Addr)) p) r := fun _ => by
  obtain ⟨b, o, cs, e, k1, k2⟩ := h (by simp)
  refine ⟨b, o + n, cs, by rw [e]; rfl, k1, fun i x j hi hj => ?_⟩
  have := k2 (i + 1) x j (by simpa using hi) hj
  rw [Nat.succ_mul] at this
  rw [← this]
  congr 1
  omega
theorem View.of (hn : ∀ x, (enc x).length = n) (h : RdL M enc p l.length l) : View enc n M p l := fun h0 => by
  obtain ⟨a, e, k⟩ := h.2 (List.length_pos_iff.2 h0)
  refine ⟨a, 0, _, e, k, fun i x j hi hj => ?_⟩
  have := flat_get hn l i j x hi hj
  rw [Nat.zero_add]; exact this
theorem View.ints {k : IntKind} {l : List Int} {c : Nat} (h : Slc M 1 p l.length c (ints k l)) : View (fun x => [.int k x]) 1 M p l := fun h0 => by
  obtain ⟨a, e, k⟩ := h.pos (List.length_pos_iff.2 h0)
  refine ⟨a, 0, _, e, k.rd, fun i x j hi hj => ?_⟩
  obtain rfl : j = 0 := by omega
  rw [Nat.zero_add, Nat.mul_one, Nat.add_zero, ints_get, hi]; rfl
end
def s71_14 (c : Int) (d : Option Addr) (a b e f : Nat) (g : Int) (h : AMem) : List Value := junk :: .int .i64 c :: .slice d a b :: .pointer (some ⟨e, 0, none⟩) :: jk 2 (.pointer (some ⟨f, 0, none⟩) :: junk :: .int .i64 g :: jk 65 [])
noncomputable def F71_14 (a b : ACode) (j : Rec) := fun e f c d g h i k => j.loop a (blockK 0 (seqK (code j (.clear zl58 b) (retK [.cell true [.int .i64, .slice, .int .i64, .bool, .int .u64, .int .i64] 6, .tmp 7])) (retK [.cell true [.int .i64, .slice, .int .i64, .bool, .int .u64, .int .i64] 6, .tmp 7]))) (s71_14 e f c d g h i k) k

noncomputable def P71_14 := hid (F71_14 b71_14 c71_31)
def s71_30 (c : Int) (d : Option Addr) (a b e f : Nat) (g : Int) (h : AMem) : List Value := junk :: .int .i64 c :: .slice d a b :: .pointer (some ⟨e, 0, none⟩) :: jk 2 (.pointer (some ⟨f, 0, none⟩) :: junk :: .int .i64 g :: jk 65 [])
noncomputable def F71_30 (a b c : ACode) (k : Rec) := fun f g d e h i j l => code k b (postK zl57 (loopK k a (blockK 0 (seqK (code k (.clear zl58 c) (retK [.cell true [.int .i64, .slice, .int .i64, .bool, .int .u64, .int .i64] 6, .tmp 7])) (retK [.cell true [.int .i64, .slice, .int .i64, .bool, .int .u64, .int .i64] 6, .tmp 7]))))) (s71_30 f g d e h i j l) l

noncomputable def P71_30 := hid (F71_30 b71_14 c71_30 c71_31)
def s71_31 (c : Int) (d : Option Addr) (a b e f : Nat) (g : AMem) : List Value := junk :: .int .i64 c :: .slice d a b :: .pointer (some ⟨e, 0, none⟩) :: jk 2 (.pointer (some ⟨f, 0, none⟩) :: jk 67 [])
noncomputable def F71_31 (a : ACode) (h : Rec) := fun d e b c f g i => code h a (retK [.cell true [.int .i64, .slice, .int .i64, .bool, .int .u64, .int .i64] 6, .tmp 7]) (s71_31 d e b c f g i) i

noncomputable def P71_31 := hid (F71_31 c71_31)
theorem QP71_14_eq (U : Rec) (d h e : ACode) (T : HB U d (.post (.seq (.seq (.ops o71_17) (.cond (.tmp 32) (.skip) (.exit 0))) (.seq (.block 1 (.seq (.draw [] 0 o71_24 []) (.cond (.tmp 62) (.seq (.ops o71_27) (.ret)) (.skip)))) (.clear zl57 h))) zl57)) (i) (m : i = F71_14 d e) (j) (n : j = F71_30 d h e) (k) (o : k = F71_31 e) (M : Int) (w : Option Addr) (f u x a : Nat) (l : Int) (V : AMem) : i U M w f u x a l V = (if (decide (l < (Int.ofNat f))) = true then (match w with | some y => (if (0 : Int) ≤ l ∧ l < (Int.ofNat f) then (Option.bind (intOf? .i64 (V.ld y.block (y.off + ((Int.toNat l) * 4)))) fun N => (if (decide (N < 0)) = true then (Option.bind (V.wr a 0 [.int .i64 0, .slice none 0 0, .int .i64 0, .bool false, .int .u64 0, .int .i64 0]) fun g => (Option.bind (intOf? .i64 (g.ld a 0)) fun O => (Option.bind (sliceOf? (g.ld a 1)) fun v => (Option.bind (intOf? .i64 (g.ld a 2)) fun P => (Option.bind (boolOf? (g.ld a 3)) fun Q => (Option.bind (intOf? .u64 (g.ld a 4)) fun R => (Option.bind (intOf? .i64 (g.ld a 5)) fun S => some (.tuple #[.agg #[.int .i64 O, .slice v.1 v.2.1 v.2.2, .int .i64 P, .bool Q, .int .u64 R, .int .i64 S], .bool false], g)))))))) else (match w with | some r => (if (0 : Int) ≤ l ∧ l < (Int.ofNat f) then (Option.bind (intOf? .i64 (V.ld r.block (r.off + ((Int.toNat l) * 4)))) fun z => (Option.bind (intOf? .i64 (V.ld x 0)) fun A => (if (decide (z ≥ A)) = true then (Option.bind (V.wr a 0 [.int .i64 0, .slice none 0 0, .int .i64 0, .bool false, .int .u64 0, .int .i64 0]) fun b => (Option.bind (intOf? .i64 (b.ld a 0)) fun B => (Option.bind (sliceOf? (b.ld a 1)) fun p => (Option.bind (intOf? .i64 (b.ld a 2)) fun C => (Option.bind (boolOf? (b.ld a 3)) fun D => (Option.bind (intOf? .u64 (b.ld a 4)) fun E => (Option.bind (intOf? .i64 (b.ld a 5)) fun F => some (.tuple #[.agg #[.int .i64 B, .slice p.1 p.2.1 p.2.2, .int .i64 C, .bool D, .int .u64 E, .int .i64 F], .bool false], b)))))))) else (match w with | some s => (if (0 : Int) ≤ l ∧ l < (Int.ofNat f) then (Option.bind (intOf? .i64 (V.ld s.block (s.off + ((Int.toNat l) * 4)))) fun G => (Option.bind (intOf? .i64 (V.ld x 1)) fun t => (if t = 0 then none else (if ((Int.tmod G t) != M) = true then (Option.bind (V.wr a 0 [.int .i64 0, .slice none 0 0, .int .i64 0, .bool false, .int .u64 0, .int .i64 0]) fun c => (Option.bind (intOf? .i64 (c.ld a 0)) fun H => (Option.bind (sliceOf? (c.ld a 1)) fun q => (Option.bind (intOf? .i64 (c.ld a 2)) fun I => (Option.bind (boolOf? (c.ld a 3)) fun J => (Option.bind (intOf? .u64 (c.ld a 4)) fun K => (Option.bind (intOf? .i64 (c.ld a 5)) fun L => some (.tuple #[.agg #[.int .i64 H, .slice q.1 q.2.1 q.2.2, .int .i64 I, .bool J, .int .u64 K, .int .i64 L], .bool false], c)))))))) else j U M w f u x a l V)))) else none) | none => none)))) else none) | none => none))) else none) | none => none) else k U M w f u x a V) := by
  subst m; subst n; subst o; exact (T _ _ _).trans (by kernel_rfl)
abbrev P71_14_eq (L : Rec) (hL : HL L) := QP71_14_eq L _ _ _ (hL b71_14) P71_14 (hE _) P71_30 (hE _) P71_31 (hE _)
theorem QP71_30_eq (n : Rec) (a b : ACode) (c) (e : c = F71_14 a b) (d : Rec → Int → (Option Addr) → Nat → Nat → Nat → Nat → Int → AMem → Res) (f : Eq d fun n i j g h k l m o => code n (.ops o71_30) (postK zl57 (loopK n a (blockK 0 (seqK (code n (.clear zl58 b) (retK [.cell true [.int .i64, .slice, .int .i64, .bool, .int .u64, .int .i64] 6, .tmp 7])) (retK [.cell true [.int .i64, .slice, .int .i64, .bool, .int .u64, .int .i64] 6, .tmp 7]))))) (s71_30 i j g h k l m o) o) (i : Int) (j : Option Addr) (g h k l : Nat) (m : Int) (o : AMem) : d n i j g h k l m o = c n i j g h k l (IntKind.wrap .i64 (m + 1)) o := by
  subst e; subst f; kernel_rfl
abbrev P71_30_eq (L : Rec) := QP71_30_eq L _ _ P71_14 (hE _) P71_30 (hE _)
theorem QP71_31_eq (x : Rec) (b : Rec → Int → (Option Addr) → Nat → Nat → Nat → Nat → AMem → Res) (c : Eq b fun x p q f g j e y => code x (.seq (.ops o71_32) (.seq (.ops o71_34) (.ret))) (retK [.cell true [.int .i64, .slice, .int .i64, .bool, .int .u64, .int .i64] 6, .tmp 7]) (s71_31 p q f g j e y) y) (p : Int) (q : Option Addr) (f g j e : Nat) (y : AMem) : b x p q f g j e y = (Option.bind (intOf? .i64 (y.ld j 0)) fun r => (Option.bind (intOf? .i64 (y.ld j 1)) fun s => (Option.bind (x.call 85 [.agg #[.int .i64 r, .int .i64 s], .int .i64 p, .slice q f g] y) fun h => (Option.bind (sliceOf? (some h.1)) fun i => (Option.bind (intOf? .i64 (h.2.ld j 0)) fun t => (Option.bind (intOf? .i64 (h.2.ld j 1)) fun u => (Option.bind (x.call 8 [.agg #[.int .i64 t, .int .i64 u]] []) fun v => (Option.bind (intOf? .i64 (some v.1)) fun w => (Option.bind (h.2.wr e 0 [.int .i64 w, .slice i.1 i.2.1 i.2.2, .int .i64 (Int.ofNat i.2.1), .bool false, .int .u64 0, .int .i64 0]) fun a => (Option.bind (intOf? .i64 (a.ld e 0)) fun k => (Option.bind (sliceOf? (a.ld e 1)) fun d => (Option.bind (intOf? .i64 (a.ld e 2)) fun l => (Option.bind (boolOf? (a.ld e 3)) fun m => (Option.bind (intOf? .u64 (a.ld e 4)) fun n => (Option.bind (intOf? .i64 (a.ld e 5)) fun o => some (.tuple #[.agg #[.int .i64 k, .slice d.1 d.2.1 d.2.2, .int .i64 l, .bool m, .int .u64 n, .int .i64 o], .bool true], a)))))))))))))))) := by
  subst c; kernel_rfl
abbrev P71_31_eq (L : Rec) := QP71_31_eq L P71_31 (hE _)
theorem QE71 (R : Rec) (g h : ACode) (i) (j : i = F71_14 g h) (a b I : Int) (Q : Option Addr) (n p : Nat) (S : AMem) : enterF R ⟨74, [.cell true [.int .i64, .slice, .int .i64, .bool, .int .u64, .int .i64] 6, .tmp 7], .seq (.ops o71_1) (.seq (.seq (.ops o71_4) (.cond (.tmp 27) (.seq (.ops o71_7) (.ret)) (.skip))) (.seq (.seq (.ops o71_12) (.block 0 (.clear zl57 (.loop g)))) (.clear zl58 h)))⟩ [.agg #[.int .i64 a, .int .i64 b], .int .i64 I, .slice Q n p] S = (Option.bind (intOf? .i64 (AMem.ld ((S ++ [AObj.cells [.int .i64 a, .int .i64 b] ⟨false, 0⟩]) ++ [AObj.cells [.int .i64 0, .slice none 0 0, .int .i64 0, .bool false, .int .u64 0, .int .i64 0] ⟨false, 0⟩]) S.length 0)) fun J => (Option.bind (intOf? .i64 (AMem.ld ((S ++ [AObj.cells [.int .i64 a, .int .i64 b] ⟨false, 0⟩]) ++ [AObj.cells [.int .i64 0, .slice none 0 0, .int .i64 0, .bool false, .int .u64 0, .int .i64 0] ⟨false, 0⟩]) S.length 1)) fun K => (Option.bind (R.call 4 [.agg #[.int .i64 J, .int .i64 K]] []) fun L => (Option.bind (boolOf? (some L.1)) fun M => (if (!M) = true then (Option.bind (AMem.wr ((S ++ [AObj.cells [.int .i64 a, .int .i64 b] ⟨false, 0⟩]) ++ [AObj.cells [.int .i64 0, .slice none 0 0, .int .i64 0, .bool false, .int .u64 0, .int .i64 0] ⟨false, 0⟩]) (List.length (S ++ [AObj.cells [.int .i64 a, .int .i64 b] ⟨false, 0⟩])) 0 [.int .i64 0, .slice none 0 0, .int .i64 0, .bool false, .int .u64 0, .int .i64 0]) fun f => (Option.bind (intOf? .i64 (f.ld (List.length (S ++ [AObj.cells [.int .i64 a, .int .i64 b] ⟨false, 0⟩])) 0)) fun N => (Option.bind (sliceOf? (f.ld (List.length (S ++ [AObj.cells [.int .i64 a, .int .i64 b] ⟨false, 0⟩])) 1)) fun o => (Option.bind (intOf? .i64 (f.ld (List.length (S ++ [AObj.cells [.int .i64 a, .int .i64 b] ⟨false, 0⟩])) 2)) fun O => (Option.bind (boolOf? (f.ld (List.length (S ++ [AObj.cells [.int .i64 a, .int .i64 b] ⟨false, 0⟩])) 3)) fun P => (Option.bind (intOf? .u64 (f.ld (List.length (S ++ [AObj.cells [.int .i64 a, .int .i64 b] ⟨false, 0⟩])) 4)) fun q => (Option.bind (intOf? .i64 (f.ld (List.length (S ++ [AObj.cells [.int .i64 a, .int .i64 b] ⟨false, 0⟩])) 5)) fun r => some (.tuple #[.agg #[.int .i64 N, .slice o.1 o.2.1 o.2.2, .int .i64 O, .bool P, .int .u64 q, .int .i64 r], .bool false], f)))))))) else (if (decide (I < 0)) = true then (Option.bind (AMem.wr ((S ++ [AObj.cells [.int .i64 a, .int .i64 b] ⟨false, 0⟩]) ++ [AObj.cells [.int .i64 0, .slice none 0 0, .int .i64 0, .bool false, .int .u64 0, .int .i64 0] ⟨false, 0⟩]) (List.length (S ++ [AObj.cells [.int .i64 a, .int .i64 b] ⟨false, 0⟩])) 0 [.int .i64 0, .slice none 0 0, .int .i64 0, .bool false, .int .u64 0, .int .i64 0]) fun c => (Option.bind (intOf? .i64 (c.ld (List.length (S ++ [AObj.cells [.int .i64 a, .int .i64 b] ⟨false, 0⟩])) 0)) fun s => (Option.bind (sliceOf? (c.ld (List.length (S ++ [AObj.cells [.int .i64 a, .int .i64 b] ⟨false, 0⟩])) 1)) fun k => (Option.bind (intOf? .i64 (c.ld (List.length (S ++ [AObj.cells [.int .i64 a, .int .i64 b] ⟨false, 0⟩])) 2)) fun t => (Option.bind (boolOf? (c.ld (List.length (S ++ [AObj.cells [.int .i64 a, .int .i64 b] ⟨false, 0⟩])) 3)) fun u => (Option.bind (intOf? .u64 (c.ld (List.length (S ++ [AObj.cells [.int .i64 a, .int .i64 b] ⟨false, 0⟩])) 4)) fun v => (Option.bind (intOf? .i64 (c.ld (List.length (S ++ [AObj.cells [.int .i64 a, .int .i64 b] ⟨false, 0⟩])) 5)) fun w => some (.tuple #[.agg #[.int .i64 s, .slice k.1 k.2.1 k.2.2, .int .i64 t, .bool u, .int .u64 v, .int .i64 w], .bool false], c)))))))) else (Option.bind (intOf? .i64 (AMem.ld ((S ++ [AObj.cells [.int .i64 a, .int .i64 b] ⟨false, 0⟩]) ++ [AObj.cells [.int .i64 0, .slice none 0 0, .int .i64 0, .bool false, .int .u64 0, .int .i64 0] ⟨false, 0⟩]) S.length 1)) fun x => (if (decide (I ≥ x)) = true then (Option.bind (AMem.wr ((S ++ [AObj.cells [.int .i64 a, .int .i64 b] ⟨false, 0⟩]) ++ [AObj.cells [.int .i64 0, .slice none 0 0, .int .i64 0, .bool false, .int .u64 0, .int .i64 0] ⟨false, 0⟩]) (List.length (S ++ [AObj.cells [.int .i64 a, .int .i64 b] ⟨false, 0⟩])) 0 [.int .i64 0, .slice none 0 0, .int .i64 0, .bool false, .int .u64 0, .int .i64 0]) fun d => (Option.bind (intOf? .i64 (d.ld (List.length (S ++ [AObj.cells [.int .i64 a, .int .i64 b] ⟨false, 0⟩])) 0)) fun y => (Option.bind (sliceOf? (d.ld (List.length (S ++ [AObj.cells [.int .i64 a, .int .i64 b] ⟨false, 0⟩])) 1)) fun l => (Option.bind (intOf? .i64 (d.ld (List.length (S ++ [AObj.cells [.int .i64 a, .int .i64 b] ⟨false, 0⟩])) 2)) fun z => (Option.bind (boolOf? (d.ld (List.length (S ++ [AObj.cells [.int .i64 a, .int .i64 b] ⟨false, 0⟩])) 3)) fun A => (Option.bind (intOf? .u64 (d.ld (List.length (S ++ [AObj.cells [.int .i64 a, .int .i64 b] ⟨false, 0⟩])) 4)) fun B => (Option.bind (intOf? .i64 (d.ld (List.length (S ++ [AObj.cells [.int .i64 a, .int .i64 b] ⟨false, 0⟩])) 5)) fun C => some (.tuple #[.agg #[.int .i64 y, .slice l.1 l.2.1 l.2.2, .int .i64 z, .bool A, .int .u64 B, .int .i64 C], .bool false], d)))))))) else (if (decide ((Int.ofNat n) > 4096)) = true then (Option.bind (AMem.wr ((S ++ [AObj.cells [.int .i64 a, .int .i64 b] ⟨false, 0⟩]) ++ [AObj.cells [.int .i64 0, .slice none 0 0, .int .i64 0, .bool false, .int .u64 0, .int .i64 0] ⟨false, 0⟩]) (List.length (S ++ [AObj.cells [.int .i64 a, .int .i64 b] ⟨false, 0⟩])) 0 [.int .i64 0, .slice none 0 0, .int .i64 0, .bool false, .int .u64 0, .int .i64 0]) fun e => (Option.bind (intOf? .i64 (e.ld (List.length (S ++ [AObj.cells [.int .i64 a, .int .i64 b] ⟨false, 0⟩])) 0)) fun D => (Option.bind (sliceOf? (e.ld (List.length (S ++ [AObj.cells [.int .i64 a, .int .i64 b] ⟨false, 0⟩])) 1)) fun m => (Option.bind (intOf? .i64 (e.ld (List.length (S ++ [AObj.cells [.int .i64 a, .int .i64 b] ⟨false, 0⟩])) 2)) fun E => (Option.bind (boolOf? (e.ld (List.length (S ++ [AObj.cells [.int .i64 a, .int .i64 b] ⟨false, 0⟩])) 3)) fun F => (Option.bind (intOf? .u64 (e.ld (List.length (S ++ [AObj.cells [.int .i64 a, .int .i64 b] ⟨false, 0⟩])) 4)) fun G => (Option.bind (intOf? .i64 (e.ld (List.length (S ++ [AObj.cells [.int .i64 a, .int .i64 b] ⟨false, 0⟩])) 5)) fun H => some (.tuple #[.agg #[.int .i64 D, .slice m.1 m.2.1 m.2.2, .int .i64 E, .bool F, .int .u64 G, .int .i64 H], .bool false], e)))))))) else i R I Q n p S.length (List.length (S ++ [AObj.cells [.int .i64 a, .int .i64 b] ⟨false, 0⟩])) 0 ((S ++ [AObj.cells [.int .i64 a, .int .i64 b] ⟨false, 0⟩]) ++ [AObj.cells [.int .i64 0, .slice none 0 0, .int .i64 0, .bool false, .int .u64 0, .int .i64 0] ⟨false, 0⟩])))))))))) := by
  subst j; kernel_rfl
abbrev E71 (L : Rec) (x0_0 x0_1 x1 : Int) (x2 : Option Addr) (x2n x2c : Nat) (M : AMem) := (Eq.refl (enterF L a71 [.agg #[.int .i64 x0_0, .int .i64 x0_1], .int .i64 x1, .slice x2 x2n x2c] M)).trans (QE71 L _ _ P71_14 (hE _) x0_0 x0_1 x1 x2 x2n x2c M)
def s85_8 (e : Int) (f : Option Addr) (a b g : Nat) (h : Option Addr) (c d : Nat) (i : Int) (j : AMem) : List Value := junk :: .int .i64 e :: .slice f a b :: .pointer (some ⟨g, 0, none⟩) :: jk 3 (.slice h c d :: .int .i64 i :: jk 53 [])
noncomputable def F85_8 (b a : ACode) (l : Rec) := fun g h c d i j e f k m => l.loop b (blockK 0 (seqK (code l (.clear zl65 a) (retK [.tmp 6])) (retK [.tmp 6]))) (s85_8 g h c d i j e f k m) m

noncomputable def P85_8 := hid (F85_8 b85_8 c85_36)
def s85_20 (e : Int) (f : Option Addr) (a b g : Nat) (h : Option Addr) (c d : Nat) (i j : Int) (k : AMem) : List Value := junk :: .int .i64 e :: .slice f a b :: .pointer (some ⟨g, 0, none⟩) :: jk 3 (.slice h c d :: .int .i64 i :: .int .i64 j :: jk 52 [])
noncomputable def F85_20 (c b d a : ACode) (o : Rec) := fun i j e f k l g h m n p => o.loop c (blockK 2 (blockK 1 (seqK (code o (.clear zl64 d) (postK zl64 (loopK o b (blockK 0 (seqK (code o (.clear zl65 a) (retK [.tmp 6])) (retK [.tmp 6])))))) (postK zl64 (loopK o b (blockK 0 (seqK (code o (.clear zl65 a) (retK [.tmp 6])) (retK [.tmp 6])))))))) (s85_20 i j e f k l g h m n p) p

noncomputable def P85_20 := hid (F85_20 b85_20 b85_8 c85_35 c85_36)
def s85_36 (c : Int) (d : Nat) (e : Option Addr) (a b : Nat) (f : AMem) : List Value := junk :: .int .i64 c :: junk :: .pointer (some ⟨d, 0, none⟩) :: jk 3 (.slice e a b :: jk 54 [])
noncomputable def F85_36 (a : ACode) (g : Rec) := fun d e f b c h => code g a (retK [.tmp 6]) (s85_36 d e f b c h) h

noncomputable def P85_36 := hid (F85_36 c85_36)
def s85_34 (e : Int) (f : Option Addr) (a b g : Nat) (h : Option Addr) (c d : Nat) (i j : Int) (k : AMem) : List Value := junk :: .int .i64 e :: .slice f a b :: .pointer (some ⟨g, 0, none⟩) :: jk 3 (.slice h c d :: .int .i64 i :: .int .i64 j :: jk 52 [])
noncomputable def F85_34 (c b d e a : ACode) (p : Rec) := fun j k f g l m h i n o q => code p d (postK zl63 (loopK p c (blockK 2 (blockK 1 (seqK (code p (.clear zl64 e) (postK zl64 (loopK p b (blockK 0 (seqK (code p (.clear zl65 a) (retK [.tmp 6])) (retK [.tmp 6])))))) (postK zl64 (loopK p b (blockK 0 (seqK (code p (.clear zl65 a) (retK [.tmp 6])) (retK [.tmp 6])))))))))) (s85_34 j k f g l m h i n o q) q

noncomputable def P85_34 := hid (F85_34 b85_20 b85_8 c85_34 c85_35 c85_36)
def s85_35 (e : Int) (f : Option Addr) (a b g : Nat) (h : Option Addr) (c d : Nat) (i : Int) (j : AMem) : List Value := junk :: .int .i64 e :: .slice f a b :: .pointer (some ⟨g, 0, none⟩) :: jk 3 (.slice h c d :: .int .i64 i :: jk 53 [])
noncomputable def F85_35 (c a b : ACode) (m : Rec) := fun h i d e j k f g l n => code m a (postK zl64 (loopK m c (blockK 0 (seqK (code m (.clear zl65 b) (retK [.tmp 6])) (retK [.tmp 6]))))) (s85_35 h i d e j k f g l n) n

noncomputable def P85_35 := hid (F85_35 b85_8 c85_35 c85_36)
theorem QP85_8_eq (u : Rec) (c b d a : ACode) (t : HB u b (.post (.seq (.seq (.ops o85_11) (.cond (.tmp 19) (.skip) (.exit 0))) (.seq (.block 1 (.seq (.ops o85_18) (.block 2 (.clear zl63 (.loop c))))) (.clear zl64 d))) zl64)) (g) (j : g = F85_8 b a) (e) (h : e = F85_20 c b d a) (f) (i : f = F85_36 a) (o : Int) (s : Option Addr) (k n p : Nat) (q : Option Addr) (l m : Nat) (r : Int) (v : AMem) : g u o s k n p q l m r v = (if (decide (r < (Int.ofNat k))) = true then e u o s k n p q l m r 0 v else f u o p q l m v) := by
  subst j; subst h; subst i; exact (t _ _ _).trans (by kernel_rfl)
abbrev P85_8_eq (L : Rec) (hL : HL L) := QP85_8_eq L _ _ _ _ (hL b85_8) P85_8 (hE _) P85_20 (hE _) P85_36 (hE _)
theorem QP85_20_eq (L : Rec) (a e g b c : ACode) (K : HB L a (.post (.seq (.seq (.ops o85_23) (.cond (.tmp 23) (.skip) (.exit 2))) (.seq (.block 3 (.seq (.ops o85_30) (.cond (.tmp 33) (.draw [] 0 o85_32 []) (.skip)))) (.clear zl63 g))) zl63)) (h) (k : h = F85_20 a e b c) (d) (l : d = F85_34 a e g b c) (i) (m : i = F85_35 e b c) (D : Int) (t : Option Addr) (f o u : Nat) (E : Option Addr) (p q : Nat) (j n : Int) (M : AMem) : h L D t f o u E p q j n M = (if (decide (n < 3)) = true then (match t with | some v => (if (0 : Int) ≤ j ∧ j < (Int.ofNat f) then (if (0 : Int) ≤ n ∧ n < 3 then (Option.bind (intOf? .u64 (M.ld v.block (((v.off + ((Int.toNat j) * 4)) + 1) + ((Int.toNat n) * 1)))) fun F => (if (F != 0) = true then (Option.bind (intOf? .i64 (M.ld u 0)) fun G => (Option.bind (intOf? .i64 (M.ld u 1)) fun H => (match t with | some w => (if (0 : Int) ≤ j ∧ j < (Int.ofNat f) then (Option.bind (intOf? .i64 (M.ld w.block (w.off + ((Int.toNat j) * 4)))) fun I => (Option.bind (L.call 99 [.agg #[.int .i64 G, .int .i64 H], .agg #[.int .i64 4, .int .i64 I, .int .i64 n]] []) fun J => (Option.bind (intOf? .i64 (some J.1)) fun x => (match t with | some y => (if (0 : Int) ≤ j ∧ j < (Int.ofNat f) then (if (0 : Int) ≤ n ∧ n < 3 then (Option.bind (intOf? .u64 (M.ld y.block (((y.off + ((Int.toNat j) * 4)) + 1) + ((Int.toNat n) * 1)))) fun s => (Option.bind (rowOf (M ++ [AObj.cells [.int .i64 x, .int .u64 s] ⟨false, 0⟩]) 2 (.slice (some ⟨M.length, 0, none⟩) 1 2)) fun r => (appendK 2 16 E p q 1 r (M ++ [AObj.cells [.int .i64 x, .int .u64 s] ⟨false, 0⟩]) fun z A B C => d L D t f o u z A B j n C))) else none) else none) | none => none)))) else none) | none => none))) else d L D t f o u E p q j n M)) else none) else none) | none => none) else i L D t f o u E p q j M) := by
  subst k; subst l; subst m; exact (K _ _ _).trans (by kernel_rfl)
abbrev P85_20_eq (L : Rec) (hL : HL L) := QP85_20_eq L _ _ _ _ _ (hL b85_20) P85_20 (hE _) P85_34 (hE _) P85_35 (hE _)
theorem QP85_36_eq (q : Rec) (a : Rec → Int → Nat → (Option Addr) → Nat → Nat → AMem → Res) (b : Eq a fun q h f i c d r => code q (.seq (.ops o85_37) (.ret)) (retK [.tmp 6]) (s85_36 h f i c d r) r) (h : Int) (f : Nat) (i : Option Addr) (c d : Nat) (r : AMem) : a q h f i c d r = (Option.bind (intOf? .i64 (r.ld f 0)) fun j => (Option.bind (intOf? .i64 (r.ld f 1)) fun k => (Option.bind (q.call 99 [.agg #[.int .i64 j, .int .i64 k], .agg #[.int .i64 3, .int .i64 h, .int .i64 0]] []) fun l => (Option.bind (intOf? .i64 (some l.1)) fun g => (Option.bind (rowOf (r ++ [AObj.cells [.int .i64 g, .int .u64 1] ⟨false, 0⟩]) 2 (.slice (some ⟨r.length, 0, none⟩) 1 2)) fun e => (appendK 2 16 i c d 1 e (r ++ [AObj.cells [.int .i64 g, .int .u64 1] ⟨false, 0⟩]) fun m n o p => some (.slice m n o, p))))))) := by
  subst b; kernel_rfl
abbrev P85_36_eq (L : Rec) := QP85_36_eq L P85_36 (hE _)
theorem QP85_34_eq (s : Rec) (c b d a : ACode) (e) (g : e = F85_20 c b d a) (f : Rec → Int → (Option Addr) → Nat → Nat → Nat → (Option Addr) → Nat → Nat → Int → Int → AMem → Res) (h : Eq f fun s m n i j o p k l q r t => code s (.ops o85_34) (postK zl63 (loopK s c (blockK 2 (blockK 1 (seqK (code s (.clear zl64 d) (postK zl64 (loopK s b (blockK 0 (seqK (code s (.clear zl65 a) (retK [.tmp 6])) (retK [.tmp 6])))))) (postK zl64 (loopK s b (blockK 0 (seqK (code s (.clear zl65 a) (retK [.tmp 6])) (retK [.tmp 6])))))))))) (s85_34 m n i j o p k l q r t) t) (m : Int) (n : Option Addr) (i j o : Nat) (p : Option Addr) (k l : Nat) (q r : Int) (t : AMem) : f s m n i j o p k l q r t = e s m n i j o p k l q (IntKind.wrap .i64 (r + 1)) t := by
  subst g; subst h; kernel_rfl
abbrev P85_34_eq (L : Rec) := QP85_34_eq L _ _ _ _ P85_20 (hE _) P85_34 (hE _)
theorem QP85_35_eq (p : Rec) (c a : ACode) (d) (f : d = F85_8 c a) (b : Rec → Int → (Option Addr) → Nat → Nat → Nat → (Option Addr) → Nat → Nat → Int → AMem → Res) (e : Eq b fun p k l g h m n i j o q => code p (.ops o85_35) (postK zl64 (loopK p c (blockK 0 (seqK (code p (.clear zl65 a) (retK [.tmp 6])) (retK [.tmp 6]))))) (s85_35 k l g h m n i j o q) q) (k : Int) (l : Option Addr) (g h m : Nat) (n : Option Addr) (i j : Nat) (o : Int) (q : AMem) : b p k l g h m n i j o q = d p k l g h m n i j (IntKind.wrap .i64 (o + 1)) q := by
  subst f; subst e; kernel_rfl
abbrev P85_35_eq (L : Rec) := QP85_35_eq L _ _ P85_8 (hE _) P85_35 (hE _)
theorem QE85 (o : Rec) (d c : ACode) (e) (f : e = F85_8 d c) (a b i : Int) (n : Option Addr) (g h : Nat) (p : AMem) : enterF o ⟨62, [.tmp 6], .seq (.ops o85_1) (.seq (.ops o85_3) (.seq (.seq (.ops o85_6) (.block 0 (.clear zl64 (.loop d)))) (.clear zl65 c)))⟩ [.agg #[.int .i64 a, .int .i64 b], .int .i64 i, .slice n g h] p = (Option.bind (intOf? .i64 (AMem.ld (p ++ [AObj.cells [.int .i64 a, .int .i64 b] ⟨false, 0⟩]) p.length 0)) fun j => (Option.bind (intOf? .i64 (AMem.ld (p ++ [AObj.cells [.int .i64 a, .int .i64 b] ⟨false, 0⟩]) p.length 1)) fun k => (Option.bind (o.call 99 [.agg #[.int .i64 j, .int .i64 k], .agg #[.int .i64 2, .int .i64 i, .int .i64 0]] []) fun l => (Option.bind (intOf? .i64 (some l.1)) fun m => e o i n g h p.length (some ⟨(List.length (p ++ [AObj.cells [.int .i64 a, .int .i64 b] ⟨false, 0⟩])), 0, none⟩) 1 2 0 ((p ++ [AObj.cells [.int .i64 a, .int .i64 b] ⟨false, 0⟩]) ++ [AObj.cells [.int .i64 m, .int .u64 1] ⟨false, 0⟩]))))) := by
  subst f; kernel_rfl
abbrev E85 (L : Rec) (x0_0 x0_1 x1 : Int) (x2 : Option Addr) (x2n x2c : Nat) (M : AMem) := (Eq.refl (enterF L a85 [.agg #[.int .i64 x0_0, .int .i64 x0_1], .int .i64 x1, .slice x2 x2n x2c] M)).trans (QE85 L _ _ P85_8 (hE _) x0_0 x0_1 x1 x2 x2n x2c M)
def s72_31 (b : Option Addr) (a : Bool) (c : AMem) : List Value := .pointer b :: jk 68 (.bool a :: jk 15 [])
noncomputable def F72_31 (a b : ACode) (e : Rec) := fun d c f => code e a (seqK (code e (.clear zl60 b) (retK [.tmp 4])) (retK [.tmp 4])) (s72_31 d c f) f

noncomputable def P72_31 := hid (F72_31 c72_31 c72_34)
def s72_34 (a : AMem) : List Value := jk 85 []
noncomputable def F72_34 (a : ACode) (b : Rec) := fun c => code b a (retK [.tmp 4]) (s72_34 c) c

noncomputable def P72_34 := hid (F72_34 c72_34)
theorem QP72_31_eq (p : Rec) (b : ACode) (c : Rec → (Option Addr) → Bool → AMem → Res) (e : Eq c fun p h g q => code p (.cond (.tmp 69) (.ops o72_32) (.ops o72_33)) (seqK (code p (.clear zl60 b) (retK [.tmp 4])) (retK [.tmp 4])) (s72_31 h g q) q) (a) (f : a = F72_34 b) (h : Option Addr) (g : Bool) (q : AMem) : c p h g q = (if g = true then (match h with | some i => (Option.bind (sliceOf? (q.ld i.block (i.off + 1))) fun d => (if (0 : Int) ≤ 1 ∧ 1 ≤ (Int.ofNat d.2.1) ∧ (Int.ofNat d.2.1) ≤ (Int.ofNat d.2.1) then (match h with | some j => (Option.bind (q.wr j.block (j.off + 1) [.slice (Option.map (fun r => (⟨r.block, r.off + 2, r.spot⟩ : Addr)) d.1) (Int.toNat ((Int.ofNat d.2.1) - 1)) (if d.2.2 = 2 then 2 else 0)]) fun m => a p m) | none => none) else none)) | none => none) else (match h with | some k => (Option.bind (intOf? .i64 (q.ld k.block (k.off + 5))) fun n => (match h with | some l => (Option.bind (q.wr l.block (l.off + 5) [.int .i64 (IntKind.wrap .i64 (n + 1))]) fun o => a p o) | none => none)) | none => none)) := by
  subst e; subst f; kernel_rfl
abbrev P72_31_eq (L : Rec) := QP72_31_eq L _ P72_31 (hE _) P72_34 (hE _)
theorem QP72_34_eq (c : Rec) (a : Rec → AMem → Res) (b : Eq a fun c d => code c (.seq (.ops o72_35) (.ret)) (retK [.tmp 4]) (s72_34 d) d) (d : AMem) : a c d = some (.bool true, d) := by
  subst b; kernel_rfl
abbrev P72_34_eq (L : Rec) := QP72_34_eq L P72_34 (hE _)
theorem QE72 (P : Rec) (b c : ACode) (d) (f : d = F72_31 b c) (g L : Option Addr) (Q : AMem) : enterF P ⟨85, [.tmp 4], .seq (.ops o72_1) (.seq (.seq (.draw [] 0 o72_4 []) (.cond (.tmp 25) (.seq (.ops o72_7) (.ret)) (.skip))) (.seq (.ops o72_11) (.seq (.seq (.ops o72_14) (.cond (.tmp 36) (.seq (.ops o72_17) (.seq (.ops o72_19) (.seq (.ops o72_21) (.seq (.ops o72_23) (.ret))))) (.skip))) (.seq (.ops o72_27) (.seq (.seq (.draw [] 0 o72_30 []) (.clear zl59 b)) (.clear zl60 c))))))⟩ [.pointer g, .pointer L] Q = (match g with | some r => (Option.bind (sliceOf? (Q.ld r.block (r.off + 1))) fun M => (if ((Int.ofNat M.2.1) == 0) = true then some (.bool false, Q) else (match L with | some s => (Option.bind (sliceOf? (Q.ld s.block s.off)) fun N => (match g with | some t => (Option.bind (intOf? .i64 (Q.ld t.block t.off)) fun O => (if ((Int.ofNat N.2.1) != O) = true then some (.bool false, Q) else (match g with | some u => (Option.bind (sliceOf? (Q.ld u.block (u.off + 1))) fun v => (match v.1 with | some i => (if (0 : Int) ≤ 0 ∧ 0 < (Int.ofNat v.2.1) then (Option.bind (intOf? .i64 (Q.ld i.block i.off)) fun w => (Option.bind (intOf? .u64 (Q.ld i.block (i.off + 1))) fun x => (Option.bind (AMem.wr (Q ++ [AObj.cells [.int .i64 0, .int .u64 0] ⟨false, 0⟩]) Q.length 0 [.int .i64 w, .int .u64 x]) fun e => (match g with | some j => (Option.bind (boolOf? (e.ld j.block (j.off + 3))) fun y => (if (!y) = true then (Option.bind (intOf? .i64 (e.ld Q.length 0)) fun z => (Option.bind (P.call 75 [.pointer L, .int .i64 z] e) fun k => (Option.bind (tupOf? 2 k.1) fun h => (Option.bind (h[0]?) fun A => (Option.bind (intOf? .u64 (some A)) fun B => (Option.bind (h[1]?) fun C => (Option.bind (boolOf? (some C)) fun D => (match g with | some l => (Option.bind (k.2.wr l.block (l.off + 4) [.int .u64 B]) fun E => (match g with | some m => (Option.bind (E.wr m.block (m.off + 3) [.bool D]) fun F => some (.bool true, F)) | none => none)) | none => none)))))))) else (match g with | some n => (Option.bind (e.wr n.block (n.off + 3) [.bool false]) fun a => (Option.bind (intOf? .i64 (a.ld Q.length 0)) fun G => (match g with | some o => (Option.bind (intOf? .u64 (a.ld o.block (o.off + 4))) fun H => (match g with | some p => (Option.bind (intOf? .u64 (a.ld p.block (p.off + 4))) fun I => (Option.bind (intOf? .u64 (a.ld Q.length 1)) fun J => (Option.bind (P.call 76 [.pointer L, .int .i64 G, .int .u64 H, .int .u64 (IntKind.wrap .u64 (I + J))] a) fun q => (Option.bind (boolOf? (some q.1)) fun K => d P g K q.2)))) | none => none)) | none => none))) | none => none))) | none => none)))) else none) | none => none)) | none => none))) | none => none)) | none => none))) | none => none) := by
  subst f; kernel_rfl
abbrev E72 (L : Rec) (x0 x1 : Option Addr) (M : AMem) := (Eq.refl (enterF L a72 [.pointer x0, .pointer x1] M)).trans (QE72 L _ _ P72_31 (hE _) x0 x1 M)
theorem E8 (e : Rec) (a b : Int) : enterF e a8 [.agg #[.int .i64 a, .int .i64 b]] [] = (Option.bind (e.call 4 [.agg #[.int .i64 a, .int .i64 b]] []) fun c => (Option.bind (boolOf? (some c.1)) fun d => (if (!d) = true then some (.int .i64 0, ([AObj.cells [.int .i64 a, .int .i64 b] ⟨false, 0⟩] : AMem)) else some (.int .i64 (IntKind.wrap .i64 ((IntKind.wrap .i64 (1 + (IntKind.wrap .i64 (2 * b)))) + (IntKind.wrap .i64 (3 * a)))), ([AObj.cells [.int .i64 a, .int .i64 b] ⟨false, 0⟩] : AMem))))) := by kernel_rfl
theorem E99 (f : Rec) (e b c a d : Int) : enterF f a99 [.agg #[.int .i64 e, .int .i64 b], .agg #[.int .i64 c, .int .i64 a, .int .i64 d]] [] = (if (c == 2) = true then some (.int .i64 (IntKind.wrap .i64 (1 + a)), ([AObj.cells [.int .i64 e, .int .i64 b] ⟨false, 0⟩, AObj.cells [.int .i64 c, .int .i64 a, .int .i64 d] ⟨false, 0⟩] : AMem)) else (if (c == 3) = true then some (.int .i64 (IntKind.wrap .i64 ((IntKind.wrap .i64 (1 + b)) + a)), ([AObj.cells [.int .i64 e, .int .i64 b] ⟨false, 0⟩, AObj.cells [.int .i64 c, .int .i64 a, .int .i64 d] ⟨false, 0⟩] : AMem)) else some (.int .i64 (IntKind.wrap .i64 ((IntKind.wrap .i64 ((IntKind.wrap .i64 (1 + (IntKind.wrap .i64 (2 * b)))) + (IntKind.wrap .i64 (3 * a)))) + d)), ([AObj.cells [.int .i64 e, .int .i64 b] ⟨false, 0⟩, AObj.cells [.int .i64 c, .int .i64 a, .int .i64 d] ⟨false, 0⟩] : AMem)))) := by kernel_rfl
theorem rsize31_spec (p s : Int) : ∃ M, LL.call 8 [lay p s] [] = some (.int .i64 (if Rt p s then 1 + 2 * s + 3 * p else 0), M) := by
  rw [L_call8, E8]
  obtain ⟨_, k⟩ := right12_spec p s
  rw [bX k, bB]
  by_cases h : Rt p s
  · obtain ⟨h1, h2, h3, h4⟩ := h
    have e1 : IntKind.wrap .i64 (2 * s) = 2 * s := w64 (by omega)
    have e2 : IntKind.wrap .i64 (1 + 2 * s) = 1 + 2 * s := w64 (by omega)
    have e3 : IntKind.wrap .i64 (3 * p) = 3 * p := w64 (by omega)
    have e4 : IntKind.wrap .i64 (1 + 2 * s + 3 * p) = 1 + 2 * s + 3 * p := w64 (by omega)
    rw [decide_eq_true ⟨h1, h2, h3, h4⟩, ifNT, e1, e2, e3, e4, if_pos ⟨h1, h2, h3, h4⟩]
    exact ⟨_, rfl⟩
  · rw [decide_eq_false h, ifNF, if_neg h]
    exact ⟨_, rfl⟩
theorem at2_spec (p s st : Int) (h : 0 ≤ st ∧ st ≤ 1000000) : ∃ M, LL.call 99 [lay p s, .agg #[.int .i64 2, .int .i64 st, .int .i64 0]] [] = some (.int .i64 (1 + st), M) := by
  rw [L_call99, E99]
  have e : IntKind.wrap .i64 (1 + st) = 1 + st := w64 (by omega)
  rw [if_pos (by decide), e]
  exact ⟨_, rfl⟩
theorem at3_spec (p s st : Int) (h : 0 ≤ st ∧ st ≤ 1000000) (hs : 0 ≤ s ∧ s ≤ 1000000) : ∃ M, LL.call 99 [lay p s, .agg #[.int .i64 3, .int .i64 st, .int .i64 0]] [] = some (.int .i64 (1 + s + st), M) := by
  rw [L_call99, E99]
  have e : IntKind.wrap .i64 (1 + s) = 1 + s := w64 (by omega)
  have e2 : IntKind.wrap .i64 (1 + s + st) = 1 + s + st := w64 (by omega)
  rw [if_neg (by decide), if_pos (by decide), e, e2]
  exact ⟨_, rfl⟩
theorem at4_spec (p s px c : Int) (h : 0 ≤ px ∧ px ≤ 1000000) (hs : 0 ≤ s ∧ s ≤ 1000000) (hc : 0 ≤ c ∧ c < 3) : ∃ M, LL.call 99 [lay p s, .agg #[.int .i64 4, .int .i64 px, .int .i64 c]] [] = some (.int .i64 (1 + 2 * s + (3 * px + c)), M) := by
  rw [L_call99, E99]
  have e1 : IntKind.wrap .i64 (2 * s) = 2 * s := w64 (by omega)
  have e2 : IntKind.wrap .i64 (1 + 2 * s) = 1 + 2 * s := w64 (by omega)
  have e3 : IntKind.wrap .i64 (3 * px) = 3 * px := w64 (by omega)
  have e4 : IntKind.wrap .i64 (1 + 2 * s + 3 * px) = 1 + 2 * s + 3 * px := w64 (by omega)
  have e5 : IntKind.wrap .i64 (1 + 2 * s + 3 * px + c) = 1 + 2 * s + 3 * px + c := w64 (by omega)
  rw [if_neg (by decide), if_neg (by decide), e1, e2, e3, e4, e5]
  exact ⟨_, by congr 3; omega⟩
theorem ent_w {M : AMem} {a : Nat} {l : List En} (h : Rd M a (l.flatMap encE)) {i : Nat} {x : En} (hi : l[i]? = some x) {c : Nat} {w : Int} (hw : ([x.w0, x.w1, x.w2] : List Int)[c]? = some w) : M.ld a (i * 4 + 1 + c) = some (.int .u64 w) := by
  obtain ⟨_, l1, l2, l3⟩ := ent_ld h hi
  match c, hw with
  | 0, hw => cases hw; exact l1
  | 1, hw => cases hw; exact l2
  | 2, hw => cases hw; exact l3
structure GaI (N0 x3 : Nat) (p s : Int) (z : Nat) (es : List En) (M0 M : AMem) (o : Option Addr) (oc : Nat) (A : List (Int × Int)) : Prop where
  sl : Slc M 2 o A.length oc (A.flatMap encA)
  ao : ∀ b ∈ blk o, N0 ≤ b ∧ b ≠ x3 ∧ (es ≠ [] → b ≠ z)
  h3 : Rd M x3 [.int .i64 p, .int .i64 s]
  hz : es ≠ [] → Rd M z (es.flatMap encE)
  same : Same M0 M []
theorem GaI.app {N0 x3 : Nat} {p s : Int} {z : Nat} {es : List En} {M0 M : AMem} {o : Option Addr} {oc : Nat} {A : List (Int × Int)} (h : GaI N0 x3 p s z es M0 M o oc A) (hA : A.length ≤ 100000) (hN : M0.length ≤ N0) (hNM : N0 ≤ M.length) (x : Int × Int) :
    ∃ M' o', rowOf (M ++ [AObj.cells [.int .i64 x.1, .int .u64 x.2] ⟨false, 0⟩]) 2 (.slice (some ⟨M.length, 0, none⟩) 1 2) = some [.int .i64 x.1, .int .u64 x.2] ∧
      (∀ K, appendK 2 16 o A.length oc 1 [.int .i64 x.1, .int .u64 x.2] (M ++ [AObj.cells [.int .i64 x.1, .int .u64 x.2] ⟨false, 0⟩]) K = K o' (A ++ [x]).length 2 M') ∧ GaI N0 x3 p s z es M0 M' o' 2 (A ++ [x]) ∧ N0 ≤ M'.length := by
  obtain ⟨M', g1, g2, g3⟩ := grn_row (bytes := 16) (new := encA x) (m := 1) (v := 0) h.sl rfl (by omega) (by omega)
  have hrow := rowOf_new M 2 1 (encA x) 0 2 rfl
  unfold encA at g1 hrow
  have h3l := h.h3.lt
  have hle := g3.same.le
  refine ⟨M', some ⟨M.length + 1, 0, none⟩, hrow, fun K => ?_, ⟨?_, fun b hb => ?_, h.h3.same g3.same (fun hb => (h.ao _ hb).2.1 rfl), fun hne => (h.hz hne).same g3.same (fun hb => (h.ao _ hb).2.2 hne rfl), ?_⟩, by omega⟩
  · rw [List.length_append, List.length_singleton]; exact g1 K
  · rw [List.length_append, List.length_singleton, List.flatMap_append]
    simpa [encA] using g2
  · simp only [blk_some, List.mem_singleton] at hb
    subst hb
    exact ⟨by omega, by omega, fun hne => by have := (h.hz hne).lt; omega⟩
  · exact (h.same.trans g3.same).mono' fun b hb hlt => by
      rcases List.mem_append.1 hb with hb | hb
      · exact hb
      · have := (h.ao b hb).1; omega
theorem ga_step {N0 x3 : Nat} {p s st : Int} {z : Nat} {es : List En} {qc : Nat} {M0 M : AMem} {o : Option Addr} {oc : Nat} {A : List (Int × Int)} (hr : Rt p s) (h : GaI N0 x3 p s z es M0 M o oc A) (hA : A.length ≤ 100000) (hN : M0.length ≤ N0) (hNM : N0 ≤ M.length)
    {i : Nat} {e : En} (he : es[i]? = some e) (hpx : 0 ≤ e.px ∧ e.px < p) (c : Nat) (hc : c < 3) (w : Int) (hw : ([e.w0, e.w1, e.w2] : List Int)[c]? = some w) :
    ∃ M' o' oc', P85_20 LL st (some ⟨z, 0, none⟩) es.length qc x3 o A.length oc (i : Int) (c : Int) M = P85_20 LL st (some ⟨z, 0, none⟩) es.length qc x3 o' (A ++ chAdd s e.px c w).length oc' (i : Int) ((c + 1 : Nat) : Int) M' ∧ GaI N0 x3 p s z es M0 M' o' oc' (A ++ chAdd s e.px c w) ∧ N0 ≤ M'.length := by
  have hlt := (ges.1 he).1
  have hne : es ≠ [] := by intro h0; rw [h0] at hlt; simp at hlt
  have hz := h.hz hne
  obtain ⟨r1, r2, r3, r4⟩ := hr
  rw [P85_20_eq LL L_loop, ifD (by omega)]
  have a1 : (0 : Int) ≤ (i : Int) ∧ (i : Int) < Int.ofNat es.length := by rw [ofN]; omega
  have a2 : (0 : Int) ≤ (c : Int) ∧ (c : Int) < 3 := by omega
  have wc : IntKind.wrap .i64 ((c : Int) + 1) = ((c + 1 : Nat) : Int) := by rw [w64 (by omega)]; rfl
  have lw := ent_w hz he hw
  obtain ⟨l0, _⟩ := ent_ld hz he
  simp only [↓if_pos a1, ↓if_pos a2, Nat.zero_add, Nat.mul_one, Int.toNat_natCast, ↓bLI lw]
  by_cases h0 : w = 0
  · refine ⟨M, o, oc, ?_, by simpa [chAdd, h0] using h, hNM⟩
    have e1 : A ++ chAdd s e.px c w = A := by simp [chAdd, h0]
    rw [e1]
    subst h0
    rw [if_neg (by simp), P85_34_eq, wc]
  · have y0 : M.ld x3 0 = some (.int .i64 p) := h.h3.ld 0
    have y1 : M.ld x3 1 = some (.int .i64 s) := h.h3.ld 1
    obtain ⟨_, k⟩ := at4_spec p s e.px c (by omega) (by omega) (by omega)
    obtain ⟨M', o', g1, g2, g3, g4⟩ := h.app hA hN hNM (1 + 2 * s + (3 * e.px + c), w)
    have e1 : A ++ chAdd s e.px c w = A ++ [(1 + 2 * s + (3 * e.px + c), w)] := by simp [chAdd, h0]
    rw [e1]
    refine ⟨M', o', 2, ?_, g3, g4⟩
    simp only at g1 g2
    have hne' : (w != 0) = true := by simpa using h0
    rw [hne', ifT, bLI y0, bLI y1]
    simp only [↓if_pos a1, ↓bLI l0]
    rw [bX k, bI]
    simp only [↓if_pos a1, ↓if_pos a2, ↓bLI lw, ↓bX g1, g2]
    rw [P85_34_eq, wc]
theorem ga_loop {N0 x3 : Nat} {p s st : Int} {z : Nat} {es : List En} {q : Option Addr} {qc : Nat} {M0 : AMem} (hr : Rt p s) (hN : M0.length ≤ N0) (he : ∀ e ∈ es, 0 ≤ e.px ∧ e.px < p) (hes : es.length ≤ 4096) (hq : es ≠ [] → q = some ⟨z, 0, none⟩) :
    ∀ (d i : Nat) (M : AMem) (o : Option Addr) (oc : Nat) (A : List (Int × Int)), i + d = es.length → GaI N0 x3 p s z es M0 M o oc A → A.length + 3 * d ≤ 90000 → N0 ≤ M.length →
    ∃ M' o' oc', P85_8 LL st q es.length qc x3 o A.length oc (i : Int) M = P85_36 LL st x3 o' (A ++ (es.drop i).flatMap (enAdds s)).length oc' M' ∧ GaI N0 x3 p s z es M0 M' o' oc' (A ++ (es.drop i).flatMap (enAdds s)) ∧ N0 ≤ M'.length := by
  intro d
  induction d with
  | zero =>
    intro i M o oc A hi h hA hNM
    refine ⟨M, o, oc, ?_, ?_, hNM⟩
    · rw [P85_8_eq LL L_loop, ifDn (by rw [ofN]; omega), List.drop_eq_nil_of_le (by omega)]
      simp
    · rw [List.drop_eq_nil_of_le (by omega)]; simpa using h
  | succ d ih =>
    intro i M o oc A hi h hA hNM
    have hil : i < es.length := by omega
    obtain ⟨e, hei⟩ : ∃ e, es[i]? = some e := ⟨_, gee hil⟩
    obtain rfl := hq (by intro h0; rw [h0] at hil; simp at hil)
    have hpx := he e (List.mem_of_getElem? hei)
    have c0 := chAdd_len s e.px 0 e.w0
    have c1 := chAdd_len s e.px 1 e.w1
    have c2 := chAdd_len s e.px 2 e.w2
    obtain ⟨M1, o1, oc1, a1, b1, d1⟩ := ga_step (st := st) (qc := qc) hr h (by omega) hN hNM hei hpx 0 (by omega) e.w0 rfl
    obtain ⟨M2, o2, oc2, a2, b2, d2⟩ := ga_step (st := st) (qc := qc) hr b1 (by rw [List.length_append]; omega) hN d1 hei hpx 1 (by omega) e.w1 rfl
    obtain ⟨M3, o3, oc3, a3, b3, d3⟩ := ga_step (st := st) (qc := qc) hr b2 (by rw [List.length_append, List.length_append]; omega) hN d2 hei hpx 2 (by omega) e.w2 rfl
    have hen : A ++ chAdd s e.px 0 e.w0 ++ chAdd s e.px 1 e.w1 ++ chAdd s e.px 2 e.w2 = A ++ enAdds s e := by simp [enAdds]
    rw [hen] at a3 b3
    have el := enAdds_len s e
    have hd : es.drop i = e :: es.drop (i + 1) := by rw [List.drop_eq_getElem_cons hil]; congr 1; exact (ges.1 hei).2
    obtain ⟨M', o', oc', k1, k2, k3⟩ := ih (i + 1) M3 o3 oc3 _ (by omega) b3 (by rw [List.length_append]; omega) d3
    have hw : IntKind.wrap .i64 ((i : Int) + 1) = ((i + 1 : Nat) : Int) := by rw [w64 (by omega)]; rfl
    rw [hd, List.flatMap_cons, ← List.append_assoc]
    refine ⟨M', o', oc', ?_, k2, k3⟩
    rw [P85_8_eq LL L_loop, ifD (by rw [ofN]; omega), show (0 : Int) = ((0 : Nat) : Int) from rfl, a1, a2, a3, P85_20_eq LL L_loop, if_neg (by simp), P85_35_eq, hw, k1]
theorem radds33 {p s st : Int} {es : List En} {q : Option Addr} {qc : Nat} {M : AMem} (hok : FlOk p s st es) (hq : RdL M encE q es.length es) :
    ∃ M' o oc, LL.call 85 [lay p s, .int .i64 st, .slice q es.length qc] M = some (.slice o (flAdds s st es).length oc, M') ∧ RdL M' encA o (flAdds s st es).length (flAdds s st es) ∧ Same M M' [] ∧ ∀ b ∈ blk o, M.length ≤ b := by
  obtain ⟨⟨hr, hst⟩, hes, he⟩ := hok
  rw [L_call85, E85]
  have hr' := hr
  obtain ⟨r1, r2, r3, r4⟩ := hr'
  have g1 := cells_new M [.int .i64 p, .int .i64 s] 0
  have s1 := same_app M [AObj.cells [.int .i64 p, .int .i64 s] ⟨false, 0⟩]
  have l1 : (M ++ [AObj.cells [.int .i64 p, .int .i64 s] ⟨false, 0⟩]).length = M.length + 1 := by simp
  generalize M ++ [AObj.cells [.int .i64 p, .int .i64 s] ⟨false, 0⟩] = M1 at g1 s1 l1 ⊢
  have y0 : M1.ld M.length 0 = some (.int .i64 p) := g1.ld 0
  have y1 : M1.ld M.length 1 = some (.int .i64 s) := g1.ld 1
  obtain ⟨_, k⟩ := at2_spec p s st (by omega)
  rw [bLI y0, bLI y1, bX k, bI]
  have g2 := cells_new M1 (encA (1 + st, 1)) 0
  have s2 := same_app M1 [AObj.cells (encA (1 + st, 1)) ⟨false, 0⟩]
  have l2 : (M1 ++ [AObj.cells (encA (1 + st, 1)) ⟨false, 0⟩]).length = M1.length + 1 := by simp
  obtain ⟨z, hz⟩ : ∃ z, es ≠ [] → (q = some ⟨z, 0, none⟩ ∧ Rd M z (es.flatMap encE)) := by
    by_cases h0 : 0 < es.length
    · obtain ⟨z, h1, h2⟩ := hq.2 h0
      exact ⟨z, fun _ => ⟨h1, h2⟩⟩
    · exact ⟨0, fun h => absurd (List.length_eq_zero_iff.1 (by omega)) h⟩
  have hI : GaI M1.length M.length p s z es M (M1 ++ [AObj.cells (encA (1 + st, 1)) ⟨false, 0⟩]) (some ⟨M1.length, 0, none⟩) 2 [(1 + st, 1)] := by
    refine ⟨Slc.of g2 rfl, fun b hb => ?_, (g1.same s2 (by simp)).rd, fun hne => ((hz hne).2.same s1 (by simp)).same s2 (by simp), (s1.trans s2).mono (by simp)⟩
    simp only [blk_some, List.mem_singleton] at hb
    subst hb
    exact ⟨Nat.le_refl _, by omega, fun hne => by have := (hz hne).2.lt; omega⟩
  unfold encA at hI l2
  generalize M1 ++ [AObj.cells [.int .i64 (1 + st), .int .u64 1] ⟨false, 0⟩] = M2 at hI l2 ⊢
  have el := esAdds_len s es
  obtain ⟨M3, o3, oc3, a1, a2, a3⟩ := ga_loop (st := st) (qc := qc) (q := q) hr (by omega) (fun e h => ⟨(he e h).1, (he e h).2.1⟩) hes (fun hne => (hz hne).1) es.length 0 M2 _ 2 _ (by omega) hI (by rw [List.length_singleton]; omega) (by omega)
  rw [List.drop_zero] at a1 a2
  obtain ⟨M4, o4, b1, b2, b3, b4⟩ := a2.app (by rw [List.length_append, List.length_singleton]; omega) (by omega) a3 (1 + s + st, 1)
  have e1 : [(1 + st, 1)] ++ es.flatMap (enAdds s) ++ [(1 + s + st, 1)] = flAdds s st es := by simp [flAdds]
  rw [e1] at b2 b3
  simp only at b1 b2
  have z0 : M3.ld M.length 0 = some (.int .i64 p) := a2.h3.ld 0
  have z1 : M3.ld M.length 1 = some (.int .i64 s) := a2.h3.ld 1
  obtain ⟨_, k3⟩ := at3_spec p s st (by omega) (by omega)
  refine ⟨M4, o4, 2, ?_, ⟨rfl, fun h0 => ?_⟩, b3.same, fun b hb => by have := (b3.ao b hb).1; omega⟩
  · rw [show P85_8 LL st q es.length qc M.length (some ⟨M1.length, 0, none⟩) 1 2 0 M2 = _ from a1, P85_36_eq, bLI z0, bLI z1]
    rw [bX k3, bI, bX b1, b2]
  · obtain ⟨a, h1, h2⟩ := b3.sl.pos h0
    exact ⟨a, h1, h2.rd⟩
theorem bA6 {β : Type} (a b c d e g : Value) (f : List Value → Option β) : Option.bind (aggOf? 6 (.agg #[a, b, c, d, e, g])) f = f [a, b, c, d, e, g] := rfl
theorem bS1 {β : Type} (x : Value) (p : Option Addr) (n c : Nat) (l : List Value) (f : Option Addr × Nat × Nat → Option β) : Option.bind (sliceOf? ((x :: .slice p n c :: l)[1]?)) f = f (p, n, c) := bS p n c f
theorem bB3 {β : Type} (x y z : Value) (b : Bool) (l : List Value) (f : Bool → Option β) : Option.bind (boolOf? ((x :: y :: z :: .bool b :: l)[3]?)) f = f b := bB b f
theorem bI4 {β : Type} (k : IntKind) (x y z w : Value) (a : Int) (l : List Value) (f : Int → Option β) : Option.bind (intOf? k ((x :: y :: z :: w :: .int k a :: l)[4]?)) f = f a := bI k a f
theorem bI5 {β : Type} (k : IntKind) (x y z w v : Value) (a : Int) (l : List Value) (f : Int → Option β) : Option.bind (intOf? k ((x :: y :: z :: w :: v :: .int k a :: l)[5]?)) f = f a := bI k a f
def zFl : List Value := [.int .i64 0, .slice none 0 0, .int .i64 0, .bool false, .int .u64 0, .int .i64 0]
def zTup : Value := .tuple #[.agg #[.int .i64 0, .slice none 0 0, .int .i64 0, .bool false, .int .u64 0, .int .i64 0], .bool false]
theorem zw {M : AMem} {x6 : Nat} {cs : List Value} (h : Cells M x6 cs) (hl : cs.length = 6) : ∃ M', AMem.wr M x6 0 [.int .i64 0, .slice none 0 0, .int .i64 0, .bool false, .int .u64 0, .int .i64 0] = some M' ∧ M'.ld x6 0 = some (.int .i64 0) ∧ M'.ld x6 1 = some (.slice none 0 0) ∧ M'.ld x6 2 = some (.int .i64 0) ∧ M'.ld x6 3 = some (.bool false) ∧ M'.ld x6 4 = some (.int .u64 0) ∧ M'.ld x6 5 = some (.int .i64 0) ∧ Same M M' [x6] := by
  obtain ⟨M', w1, w2, w3, w4⟩ := h.wr (o := 0) (vs := zFl) (by simp [zFl, hl])
  have e : wrL cs 0 zFl = zFl := by
    match cs, hl with
    | [a, b, c, d, e, f], _ => rfl
  rw [e] at w2
  exact ⟨M', w1, w2.ld 0, w2.ld 1, w2.ld 2, w2.ld 3, w2.ld 4, w2.ld 5, w3⟩
theorem rn_loop {x3 x6 : Nat} {p s st : Int} {es : List En} {q : Option Addr} {qc : Nat} {M : AMem} {cs : List Value} (hr : Rt p s) (hst : 0 ≤ st) (hes : es.length ≤ 4096) (h3 : Rd M x3 [.int .i64 p, .int .i64 s]) (h6 : Cells M x6 cs) (hcs : cs.length = 6) (hq : RdL M encE q es.length es) : ∀ (d j : Nat), j + d = es.length →
    (if ∀ e ∈ es.drop j, 0 ≤ e.px ∧ e.px < p ∧ Int.tmod e.px s = st then P71_14 LL st q es.length qc x3 x6 (j : Int) M = P71_31 LL st q es.length qc x3 x6 M else ∃ M', P71_14 LL st q es.length qc x3 x6 (j : Int) M = some (zTup, M') ∧ Same M M' [x6]) := by
  intro d
  induction d with
  | zero =>
    intro j hj
    have hn : ∀ e ∈ es.drop j, 0 ≤ e.px ∧ e.px < p ∧ Int.tmod e.px s = st := by rw [List.drop_eq_nil_of_le (by omega)]; simp
    rw [if_pos hn, P71_14_eq LL L_loop, ifDn (by rw [ofN]; omega)]
  | succ d ih =>
    intro j hj
    have hjl : j < es.length := by omega
    obtain ⟨z, rfl, hz⟩ := hq.2 (by omega)
    obtain ⟨e, hej⟩ : ∃ e, es[j]? = some e := ⟨_, gee hjl⟩
    obtain ⟨l0, _⟩ := ent_ld hz hej
    have hd : es.drop j = e :: es.drop (j + 1) := by rw [List.drop_eq_getElem_cons hjl]; congr 1; exact (ges.1 hej).2
    have hw : IntKind.wrap .i64 ((j : Int) + 1) = ((j + 1 : Nat) : Int) := by rw [w64 (by omega)]; rfl
    have hg : (0 : Int) ≤ (j : Int) ∧ (j : Int) < Int.ofNat es.length := by rw [ofN]; omega
    have y0 : M.ld x3 0 = some (.int .i64 p) := h3.ld 0
    have y1 : M.ld x3 1 = some (.int .i64 s) := h3.ld 1
    obtain ⟨M', w1, d0, d1, d2, d3, d4, d5, sm⟩ := zw h6 hcs
    obtain ⟨r1, r2, r3, r4⟩ := hr
    have hs0 : ¬ s = 0 := by omega
    by_cases c1 : e.px < 0
    · rw [if_neg (by rw [hd]; simp only [fmc]; omega)]
      refine ⟨M', ?_, sm⟩
      rw [P71_14_eq LL L_loop, ifD hg.2]
      simp only [↓if_pos hg, Nat.zero_add, Int.toNat_natCast, ↓bLI l0]
      rw [ifD c1, bX w1, bLI d0, bLS d1, bLI d2, bLB d3, bLI d4, bLI d5]
      rfl
    by_cases c2 : e.px ≥ p
    · rw [if_neg (by rw [hd]; simp only [fmc]; omega)]
      refine ⟨M', ?_, sm⟩
      rw [P71_14_eq LL L_loop, ifD hg.2]
      simp only [↓if_pos hg, Nat.zero_add, Int.toNat_natCast, ↓bLI l0, ↓bLI y0]
      rw [ifDn c1, ifD c2, bX w1, bLI d0, bLS d1, bLI d2, bLB d3, bLI d4, bLI d5]
      rfl
    by_cases c3 : Int.tmod e.px s = st
    · have := ih (j + 1) (by omega)
      have hiff : (∀ e ∈ es.drop j, 0 ≤ e.px ∧ e.px < p ∧ Int.tmod e.px s = st) ↔ (∀ e ∈ es.drop (j + 1), 0 ≤ e.px ∧ e.px < p ∧ Int.tmod e.px s = st) := by
        rw [hd]; simp only [fmc, c3, and_true]
        exact ⟨fun h => h.2, fun h => ⟨by omega, h⟩⟩
      have hne : (Int.tmod e.px s != st) = false := by rw [c3]; exact bne_self_eq_false _
      have hstep : P71_14 LL st (some ⟨z, 0, none⟩) es.length qc x3 x6 (j : Int) M = P71_14 LL st (some ⟨z, 0, none⟩) es.length qc x3 x6 ((j + 1 : Nat) : Int) M := by
        rw [P71_14_eq LL L_loop, ifD hg.2]
        simp only [↓if_pos hg, Nat.zero_add, Int.toNat_natCast, ↓bLI l0, ↓bLI y0, ↓bLI y1]
        rw [ifDn c1, ifDn c2, if_neg hs0, hne, ifF, P71_30_eq, hw]
      rw [hstep]
      by_cases hall : ∀ e ∈ es.drop (j + 1), 0 ≤ e.px ∧ e.px < p ∧ Int.tmod e.px s = st
      · rw [if_pos hall] at this
        rw [if_pos (hiff.2 hall)]
        exact this
      · rw [if_neg hall] at this
        rw [if_neg (fun h => hall (hiff.1 h))]
        exact this
    · rw [if_neg (by rw [hd]; simp only [fmc]; exact fun h => c3 h.1.2.2)]
      refine ⟨M', ?_, sm⟩
      have hne : (Int.tmod e.px s != st) = true := by simpa using c3
      rw [P71_14_eq LL L_loop, ifD hg.2]
      simp only [↓if_pos hg, Nat.zero_add, Int.toNat_natCast, ↓bLI l0, ↓bLI y0, ↓bLI y1]
      rw [ifDn c1, ifDn c2, if_neg hs0, hne, ifT, bX w1, bLI d0, bLS d1, bLI d2, bLB d3, bLI d4, bLI d5]
      rfl
theorem rnew33 {p s st : Int} {es : List En} {q : Option Addr} {qc : Nat} {M : AMem} (hq : RdL M encE q es.length es) :
    (FlOk p s st es → ∃ M' o oc, LL.call 71 [lay p s, .int .i64 st, .slice q es.length qc] M = some (.tuple #[.agg #[.int .i64 (1 + 2 * s + 3 * p), .slice o (flAdds s st es).length oc, .int .i64 ((flAdds s st es).length : Nat), .bool false, .int .u64 0, .int .i64 0], .bool true], M') ∧
      RdL M' encA o (flAdds s st es).length (flAdds s st es) ∧ Same M M' [] ∧ ∀ b ∈ blk o, M.length ≤ b) ∧
    (¬ FlOk p s st es → ∃ M', LL.call 71 [lay p s, .int .i64 st, .slice q es.length qc] M = some (zTup, M') ∧ Same M M' []) := by
  rw [L_call71, E71]
  have g1 := cells_new M [.int .i64 p, .int .i64 s] 0
  have s1 := same_app M [AObj.cells [.int .i64 p, .int .i64 s] ⟨false, 0⟩]
  have l1 : (M ++ [AObj.cells [.int .i64 p, .int .i64 s] ⟨false, 0⟩]).length = M.length + 1 := by simp
  generalize M ++ [AObj.cells [.int .i64 p, .int .i64 s] ⟨false, 0⟩] = M1 at g1 s1 l1 ⊢
  have g2 := cells_new M1 [.int .i64 0, .slice none 0 0, .int .i64 0, .bool false, .int .u64 0, .int .i64 0] 0
  have s2 := same_app M1 [AObj.cells [.int .i64 0, .slice none 0 0, .int .i64 0, .bool false, .int .u64 0, .int .i64 0] ⟨false, 0⟩]
  have l2 : (M1 ++ [AObj.cells [.int .i64 0, .slice none 0 0, .int .i64 0, .bool false, .int .u64 0, .int .i64 0] ⟨false, 0⟩]).length = M1.length + 1 := by simp
  have g1' := g1.same s2 (by simp)
  generalize M1 ++ [AObj.cells [.int .i64 0, .slice none 0 0, .int .i64 0, .bool false, .int .u64 0, .int .i64 0] ⟨false, 0⟩] = M2 at g2 s2 l2 g1' ⊢
  have t2 : Same M M2 [] := (s1.trans s2).mono (by simp)
  have y0 : M2.ld M.length 0 = some (.int .i64 p) := g1'.ld 0
  have y1 : M2.ld M.length 1 = some (.int .i64 s) := g1'.ld 1
  obtain ⟨_, k⟩ := right12_spec p s
  obtain ⟨M', w1, d0, d1, d2, d3, d4, d5, sm⟩ := zw g2 rfl
  have tm : Same M M' [] := (t2.trans sm).mono' (fun b hb hl => by simp at hb; omega)
  rw [bLI y0, bLI y1, bX k, bB]
  have key : (¬ FlOk p s st es → ∃ M'', some (zTup, M') = some (zTup, M'') ∧ Same M M'' []) := fun _ => ⟨M', rfl, tm⟩
  by_cases hr : Rt p s
  · rw [decide_eq_true hr, ifNT]
    by_cases c1 : st < 0
    · rw [ifD c1, bX w1, bLI d0, bLS d1, bLI d2, bLB d3, bLI d4, bLI d5]
      exact ⟨fun h => absurd h.1.2.1 (by omega), key⟩
    rw [ifDn c1, bLI y1]
    by_cases c2 : st ≥ s
    · rw [ifD c2, bX w1, bLI d0, bLS d1, bLI d2, bLB d3, bLI d4, bLI d5]
      exact ⟨fun h => absurd h.1.2.2 (by omega), key⟩
    rw [ifDn c2]
    by_cases c3 : es.length ≤ 4096
    · rw [ifDn (by rw [ofN]; omega)]
      have hl := rn_loop (qc := qc) hr (by omega) c3 g1'.rd g2 rfl (hq.same t2 (by simp)) (st := st) es.length 0 (by omega)
      rw [List.drop_zero] at hl
      by_cases c : ∀ e ∈ es, 0 ≤ e.px ∧ e.px < p ∧ Int.tmod e.px s = st
      · rw [if_pos c] at hl
        have hok : FlOk p s st es := ⟨⟨hr, by omega, by omega⟩, c3, c⟩
        have hl0 : P71_14 LL st q es.length qc M.length M1.length 0 M2 = _ := hl
        rw [hl0]
        refine ⟨fun _ => ?_, fun h => absurd hok h⟩
        obtain ⟨M3, o, oc, a1, a2, a3, a4⟩ := radds33 (qc := qc) hok (hq.same t2 (by simp))
        have g13 := g1'.same a3 (by simp)
        have g23 := g2.same a3 (by simp)
        have z0 : M3.ld M.length 0 = some (.int .i64 p) := g13.ld 0
        have z1 : M3.ld M.length 1 = some (.int .i64 s) := g13.ld 1
        obtain ⟨_, k2⟩ := rsize31_spec p s
        rw [if_pos hr] at k2
        obtain ⟨M4, v1, v2, v3, v4⟩ := g23.wr (o := 0) (vs := [.int .i64 (1 + 2 * s + 3 * p), .slice o (flAdds s st es).length oc, .int .i64 ((flAdds s st es).length : Nat), .bool false, .int .u64 0, .int .i64 0]) (by simp)
        have v2' : Cells M4 M1.length [.int .i64 (1 + 2 * s + 3 * p), .slice o (flAdds s st es).length oc, .int .i64 ((flAdds s st es).length : Nat), .bool false, .int .u64 0, .int .i64 0] := by simpa [wrL] using v2
        refine ⟨M4, o, oc, ?_, a2.same v3 (fun b hb => by have := a4 b hb; simp; omega), ((t2.trans a3).trans v3).mono' (fun b hb hl => by simp at hb; omega), fun b hb => by have := a4 b hb; omega⟩
        have u0 : M4.ld M1.length 0 = some (.int .i64 (1 + 2 * s + 3 * p)) := v2'.ld 0
        have u1 : M4.ld M1.length 1 = some (.slice o (flAdds s st es).length oc) := v2'.ld 1
        have u2 : M4.ld M1.length 2 = some (.int .i64 ((flAdds s st es).length : Nat)) := v2'.ld 2
        have u3 : M4.ld M1.length 3 = some (.bool false) := v2'.ld 3
        have u4 : M4.ld M1.length 4 = some (.int .u64 0) := v2'.ld 4
        have u5 : M4.ld M1.length 5 = some (.int .i64 0) := v2'.ld 5
        rw [P71_31_eq, bLI y0, bLI y1, bX a1, bS, bLI z0, bLI z1, bX k2, bI]
        simp only [ofN]
        rw [bX v1, bLI u0, bLS u1, bLI u2, bLB u3, bLI u4, bLI u5]
      · rw [if_neg c] at hl
        obtain ⟨M3, e1, e2⟩ := hl
        have hl0 : P71_14 LL st q es.length qc M.length M1.length 0 M2 = _ := e1
        rw [hl0]
        exact ⟨fun h => absurd h.2.2 c, fun _ => ⟨M3, rfl, (t2.trans e2).mono' (fun b hb hl => by simp at hb; omega)⟩⟩
    · rw [ifD (by rw [ofN]; omega), bX w1, bLI d0, bLS d1, bLI d2, bLB d3, bLI d4, bLI d5]
      exact ⟨fun h => absurd h.2.1 c3, key⟩
  · rw [decide_eq_false hr, ifNF, bX w1, bLI d0, bLS d1, bLI d2, bLB d3, bLI d4, bLI d5]
    exact ⟨fun h => absurd h.1.1 hr, key⟩
end Go.Proofs.YtbclhglmdhojdaaGreat
