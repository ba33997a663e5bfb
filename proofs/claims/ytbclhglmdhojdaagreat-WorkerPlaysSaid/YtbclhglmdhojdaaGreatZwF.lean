/- Part 6 of the proof: EqWork, WPr, WPg, WPb, WPf, WPc, WInv, EqRef30, Ref30, WFl, EqRef35, WBatR, EqRef36, WDr, WPs, WDf, WDb, WDg. -/
import Derived.Test.YtbclhglmdhojdaaGreatZwE
set_option linter.unusedVariables false
set_option linter.unusedSimpArgs false
set_option maxRecDepth 100000
namespace Go.Proofs.YtbclhglmdhojdaaGreat
open Go Go.Ax
def s10_16 (f g : Nat) (c : Option Addr) (a b : Nat) (d e : Int) (h : AMem) : List Value := jk 4 (.pointer (some ⟨f, 0, none⟩) :: jk 4 (.pointer (some ⟨g, 0, none⟩) :: jk 28 (.slice c a b :: .int .i64 d :: .int .i64 e :: jk 23 [])))
noncomputable def F10_16 (a b : ACode) (j : Rec) := fun h i e c d f g k => j.loop a (blockK 0 (seqK (code j (.clear zl17 b) (retK [.tmp 8])) (retK [.tmp 8]))) (s10_16 h i e c d f g k) k

noncomputable def P10_16 := hid (F10_16 b10_16 c10_50)
def s10_30 (k l : Nat) (e : Option Addr) (a b : Nat) (f g : Int) (h : Option Addr) (c d : Nat) (i j : Int) (m : AMem) : List Value := jk 4 (.pointer (some ⟨k, 0, none⟩) :: jk 4 (.pointer (some ⟨l, 0, none⟩) :: jk 28 (.slice e a b :: .int .i64 f :: .int .i64 g :: jk 3 (.slice h c d :: .int .i64 i :: .int .i64 j :: jk 17 []))))
noncomputable def F10_30 (a c d b : ACode) (q : Rec) := fun o p i e f j k l g h m n r => q.loop c (blockK 2 (blockK 1 (seqK (code q (.clear zl16 d) (postK zl16 (loopK q a (blockK 0 (seqK (code q (.clear zl17 b) (retK [.tmp 8])) (retK [.tmp 8])))))) (postK zl16 (loopK q a (blockK 0 (seqK (code q (.clear zl17 b) (retK [.tmp 8])) (retK [.tmp 8])))))))) (s10_30 o p i e f j k l g h m n r) r

noncomputable def P10_30 := hid (F10_30 b10_16 b10_30 c10_49 c10_50)
def s10_50 (a : Nat) (b : AMem) : List Value := jk 9 (.pointer (some ⟨a, 0, none⟩) :: jk 54 [])
noncomputable def F10_50 (a : ACode) (c : Rec) := fun b d => code c a (retK [.tmp 8]) (s10_50 b d) d

noncomputable def P10_50 := hid (F10_50 c10_50)
def s10_48 (k l : Nat) (e : Option Addr) (a b : Nat) (f g : Int) (h : Option Addr) (c d : Nat) (i j : Int) (m : AMem) : List Value := jk 4 (.pointer (some ⟨k, 0, none⟩) :: jk 4 (.pointer (some ⟨l, 0, none⟩) :: jk 28 (.slice e a b :: .int .i64 f :: .int .i64 g :: jk 3 (.slice h c d :: .int .i64 i :: .int .i64 j :: jk 17 []))))
noncomputable def F10_48 (a c d e b : ACode) (r : Rec) := fun p q j f g k l m h i n o s => code r d (postK zl15 (loopK r c (blockK 2 (blockK 1 (seqK (code r (.clear zl16 e) (postK zl16 (loopK r a (blockK 0 (seqK (code r (.clear zl17 b) (retK [.tmp 8])) (retK [.tmp 8])))))) (postK zl16 (loopK r a (blockK 0 (seqK (code r (.clear zl17 b) (retK [.tmp 8])) (retK [.tmp 8])))))))))) (s10_48 p q j f g k l m h i n o s) s

noncomputable def P10_48 := hid (F10_48 b10_16 b10_30 c10_48 c10_49 c10_50)
def s10_49 (f g : Nat) (c : Option Addr) (a b : Nat) (d e : Int) (h : AMem) : List Value := jk 4 (.pointer (some ⟨f, 0, none⟩) :: jk 4 (.pointer (some ⟨g, 0, none⟩) :: jk 28 (.slice c a b :: .int .i64 d :: .int .i64 e :: jk 23 [])))
noncomputable def F10_49 (a b c : ACode) (k : Rec) := fun i j f d e g h l => code k b (postK zl16 (loopK k a (blockK 0 (seqK (code k (.clear zl17 c) (retK [.tmp 8])) (retK [.tmp 8]))))) (s10_49 i j f d e g h l) l

noncomputable def P10_49 := hid (F10_49 b10_16 c10_49 c10_50)
theorem QP10_16_eq (u : Rec) (a c d b : ACode) (t : HB u a (.post (.seq (.ops o10_18) (.seq (.cond (.tmp 41) (.skip) (.exit 0)) (.seq (.block 1 (.seq (.ops o10_26) (.seq (.ops o10_28) (.block 2 (.clear zl15 (.loop c)))))) (.clear zl16 d)))) zl16)) (e) (i : e = F10_16 a b) (f) (j : f = F10_30 a c d b) (g) (k : g = F10_50 b) (s r : Nat) (o : Option Addr) (l n : Nat) (p h : Int) (v : AMem) : e u s r o l n p h v = (if (decide (h < p)) = true then (match o with | some q => (if (0 : Int) ≤ h ∧ h < (Int.ofNat l) then (Option.bind (sliceOf? (v.ld q.block (q.off + ((Int.toNat h) * 1)))) fun m => f u s r o l n p h m.1 m.2.1 m.2.2 (Int.ofNat m.2.1) 0 v) else none) | none => none) else g u r v) := by
  subst i; subst j; subst k; exact (t _ _ _).trans (by kernel_rfl)
abbrev P10_16_eq (L : Rec) (hL : HL L) := QP10_16_eq L _ _ _ _ (hL b10_16) P10_16 (hE _) P10_30 (hE _) P10_50 (hE _)
theorem QP10_30_eq (O : Rec) (a b h c d : ACode) (N : HB O b (.post (.seq (.ops o10_32) (.seq (.cond (.tmp 47) (.skip) (.exit 2)) (.seq (.block 3 (.seq (.ops o10_40) (.seq (.ops o10_42) (.cond (.tmp 60) (.seq (.ops o10_45) (.ret)) (.skip))))) (.clear zl15 h)))) zl15)) (i) (l : i = F10_30 a b c d) (j) (m : j = F10_48 a b h c d) (k) (n : k = F10_49 a c d) (x F : Nat) (s : Option Addr) (o p : Nat) (t u : Int) (v : Option Addr) (q r : Nat) (w e : Int) (P : AMem) : i O x F s o p t u v q r w e P = (if (decide (e < w)) = true then (match v with | some g => (if (0 : Int) ≤ e ∧ e < (Int.ofNat q) then (Option.bind (intOf? .i64 (P.ld g.block (g.off + ((Int.toNat e) * 4)))) fun G => (Option.bind (intOf? .i64 (P.ld g.block ((g.off + ((Int.toNat e) * 4)) + 1))) fun H => (Option.bind (intOf? .i64 (P.ld g.block ((g.off + ((Int.toNat e) * 4)) + 2))) fun I => (Option.bind (intOf? .i64 (P.ld g.block ((g.off + ((Int.toNat e) * 4)) + 3))) fun J => (Option.bind (AMem.wr (P ++ [AObj.cells [.int .i64 0, .int .i64 0, .int .i64 0, .int .i64 0] ⟨false, 0⟩]) P.length 0 [.int .i64 G, .int .i64 H, .int .i64 I, .int .i64 J]) fun f => (Option.bind (intOf? .i64 (f.ld x 0)) fun K => (Option.bind (intOf? .i64 (f.ld x 1)) fun L => (Option.bind (intOf? .i64 (f.ld P.length 0)) fun M => (Option.bind (O.call 29 [.agg #[.int .i64 K, .int .i64 L], .int .i64 M] []) fun y => (Option.bind (intOf? .i64 (some y.1)) fun z => (if (decide (z < 0)) = true then some (.pointer none, f) else (Option.bind (intOf? .i64 (f.ld P.length 1)) fun A => (Option.bind (intOf? .i64 (f.ld P.length 2)) fun B => (Option.bind (intOf? .i64 (f.ld P.length 3)) fun C => (Option.bind (O.call 30 [.agg #[.int .i64 A, .int .i64 B, .int .i64 C]] []) fun D => (Option.bind (boolOf? (some D.1)) fun E => (if (!E) = true then some (.pointer none, f) else j O x F s o p t u v q r w e f))))))))))))))))) else none) | none => none) else k O x F s o p t u P) := by
  subst l; subst m; subst n; exact (N _ _ _).trans (by kernel_rfl)
abbrev P10_30_eq (L : Rec) (hL : HL L) := QP10_30_eq L _ _ _ _ _ (hL b10_30) P10_30 (hE _) P10_48 (hE _) P10_49 (hE _)
theorem QP10_50_eq (d : Rec) (a : Rec → Nat → AMem → Res) (b : Eq a fun d c e => code d (.seq (.ops o10_51) (.ret)) (retK [.tmp 8]) (s10_50 c e) e) (c : Nat) (e : AMem) : a d c e = some (.pointer (some ⟨c, 0, none⟩), e) := by
  subst b; kernel_rfl
abbrev P10_50_eq (L : Rec) := QP10_50_eq L P10_50 (hE _)
theorem QP10_48_eq (u : Rec) (a c d b : ACode) (e) (k : e = F10_30 a c d b) (f : Rec → Nat → Nat → (Option Addr) → Nat → Nat → Int → Int → (Option Addr) → Nat → Nat → Int → Int → AMem → Res) (l : Eq f fun u s t m g h n o p i j q r v => code u (.ops o10_48) (postK zl15 (loopK u c (blockK 2 (blockK 1 (seqK (code u (.clear zl16 d) (postK zl16 (loopK u a (blockK 0 (seqK (code u (.clear zl17 b) (retK [.tmp 8])) (retK [.tmp 8])))))) (postK zl16 (loopK u a (blockK 0 (seqK (code u (.clear zl17 b) (retK [.tmp 8])) (retK [.tmp 8])))))))))) (s10_48 s t m g h n o p i j q r v) v) (s t : Nat) (m : Option Addr) (g h : Nat) (n o : Int) (p : Option Addr) (i j : Nat) (q r : Int) (v : AMem) : f u s t m g h n o p i j q r v = e u s t m g h n o p i j q (IntKind.wrap .i64 (r + 1)) v := by
  subst k; subst l; kernel_rfl
abbrev P10_48_eq (L : Rec) := QP10_48_eq L _ _ _ _ P10_30 (hE _) P10_48 (hE _)
theorem QP10_49_eq (n : Rec) (a b : ACode) (c) (g : c = F10_16 a b) (d : Rec → Nat → Nat → (Option Addr) → Nat → Nat → Int → Int → AMem → Res) (h : Eq d fun n l m i e f j k o => code n (.ops o10_49) (postK zl16 (loopK n a (blockK 0 (seqK (code n (.clear zl17 b) (retK [.tmp 8])) (retK [.tmp 8]))))) (s10_49 l m i e f j k o) o) (l m : Nat) (i : Option Addr) (e f : Nat) (j k : Int) (o : AMem) : d n l m i e f j k o = c n l m i e f j (IntKind.wrap .i64 (k + 1)) o := by
  subst g; subst h; kernel_rfl
abbrev P10_49_eq (L : Rec) := QP10_49_eq L _ _ P10_16 (hE _) P10_49 (hE _)
theorem QE10 (v : Rec) (f g : ACode) (h) (i : h = F10_16 f g) (a b o u : Int) (p : Option Addr) (d e : Nat) (w : AMem) : enterF v ⟨64, [.tmp 8], .seq (.ops o10_1) (.seq (.draw [] 0 o10_3 [(0, 5), (0, 9)]) (.seq (.seq (.ops o10_6) (.cond (.tmp 37) (.seq (.ops o10_9) (.ret)) (.skip))) (.seq (.seq (.ops o10_14) (.block 0 (.clear zl16 (.loop f)))) (.clear zl17 g))))⟩ [.agg #[.int .i64 a, .int .i64 b], .int .i64 o, .int .i64 u, .slice p d e] w = (Option.bind (intOf? .i64 (AMem.ld (w ++ [AObj.cells [.int .i64 a, .int .i64 b] ⟨false, 0⟩]) w.length 0)) fun j => (Option.bind (intOf? .i64 (AMem.ld (w ++ [AObj.cells [.int .i64 a, .int .i64 b] ⟨false, 0⟩]) w.length 1)) fun k => (Option.bind (intOf? .i64 (AMem.ld (w ++ [AObj.cells [.int .i64 a, .int .i64 b] ⟨false, 0⟩]) w.length 0)) fun r => (Option.bind (intOf? .i64 (AMem.ld (w ++ [AObj.cells [.int .i64 a, .int .i64 b] ⟨false, 0⟩]) w.length 1)) fun s => (Option.bind (v.call 27 [.agg #[.int .i64 r, .int .i64 s], .int .i64 u] (w ++ [AObj.cells [.int .i64 a, .int .i64 b] ⟨false, 0⟩])) fun n => (Option.bind (ptrOf? (some n.1)) fun l => (Option.bind (v.call 28 [.int .i64 (Int.ofNat d), .int .i64 o] n.2) fun c => (Option.bind (ptrOf? (some c.1)) fun m => (if chkOk [(0, 5), (0, 9)] [(0, w.length)] [(9, (n.2, c.2)), (5, ((w ++ [AObj.cells [.int .i64 a, .int .i64 b] ⟨false, 0⟩]), n.2))] = true then (Option.bind (ptrOf? (AMem.ld (c.2 ++ [AObj.cells [.int .i64 j, .int .i64 k, .int .i64 o, .slice p d e, .int .i64 0, .int .i64 0, .slice none 0 0, .pointer l, .slice none 0 0, .pointer none, .int .i64 0, .slice none 0 0, .pointer m, .int .i64 0] ⟨false, 0⟩]) c.2.length 7)) fun t => (if (Option.isNone t) = true then some (.pointer none, (c.2 ++ [AObj.cells [.int .i64 j, .int .i64 k, .int .i64 o, .slice p d e, .int .i64 0, .int .i64 0, .slice none 0 0, .pointer l, .slice none 0 0, .pointer none, .int .i64 0, .slice none 0 0, .pointer m, .int .i64 0] ⟨false, 0⟩])) else (Option.bind (ptrOf? (AMem.ld (c.2 ++ [AObj.cells [.int .i64 j, .int .i64 k, .int .i64 o, .slice p d e, .int .i64 0, .int .i64 0, .slice none 0 0, .pointer l, .slice none 0 0, .pointer none, .int .i64 0, .slice none 0 0, .pointer m, .int .i64 0] ⟨false, 0⟩]) c.2.length 12)) fun q => (if (Option.isNone q) = true then some (.pointer none, (c.2 ++ [AObj.cells [.int .i64 j, .int .i64 k, .int .i64 o, .slice p d e, .int .i64 0, .int .i64 0, .slice none 0 0, .pointer l, .slice none 0 0, .pointer none, .int .i64 0, .slice none 0 0, .pointer m, .int .i64 0] ⟨false, 0⟩])) else h v w.length c.2.length p d e (Int.ofNat d) 0 (c.2 ++ [AObj.cells [.int .i64 j, .int .i64 k, .int .i64 o, .slice p d e, .int .i64 0, .int .i64 0, .slice none 0 0, .pointer l, .slice none 0 0, .pointer none, .int .i64 0, .slice none 0 0, .pointer m, .int .i64 0] ⟨false, 0⟩]))))) else none))))))))) := by
  subst i; kernel_rfl
abbrev E10 (L : Rec) (x0_0 x0_1 x1 x2 : Int) (x3 : Option Addr) (x3n x3c : Nat) (M : AMem) := (Eq.refl (enterF L a10 [.agg #[.int .i64 x0_0, .int .i64 x0_1], .int .i64 x1, .int .i64 x2, .slice x3 x3n x3c] M)).trans (QE10 L _ _ P10_16 (hE _) x0_0 x0_1 x1 x2 x3 x3n x3c M)
theorem E32 (d : Rec) (b : Option Addr) (e : AMem) : enterF d a32 [.pointer b] e = (if (!(Option.isNone b)) = true then (match b with | some a => (Option.bind (ptrOf? (e.ld a.block (a.off + 7))) fun c => some (.bool (!(Option.isNone c)), e)) | none => none) else some (.bool false, e)) := by kernel_rfl
theorem E13 (t : Rec) (e : Option Addr) (u : AMem) : enterF t a13 [.pointer e] u = (Option.bind (t.call 32 [.pointer e] u) fun b => (Option.bind (boolOf? (some b.1)) fun p => (if (!p) = true then some (.bool true, b.2) else (match e with | some i => (Option.bind (ptrOf? (b.2.ld i.block (i.off + 9))) fun q => (if (Option.isNone q) = true then (match e with | some c => (Option.bind (sliceOf? (b.2.ld c.block (c.off + 8))) fun r => (match e with | some d => (Option.bind (sliceOf? (b.2.ld d.block (d.off + 6))) fun s => (match e with | some j => (Option.bind (ptrOf? (b.2.ld j.block (j.off + 7))) fun k => (Option.bind (t.call 33 [.pointer k] b.2) fun a => (Option.bind (intOf? .i64 (some a.1)) fun l => (if ((IntKind.wrap .i64 ((IntKind.wrap .i64 ((Int.ofNat r.2.1) + (Int.ofNat s.2.1))) + l)) == 0) = true then (match e with | some f => (Option.bind (intOf? .i64 (a.2.ld f.block (f.off + 4))) fun m => (match e with | some g => (Option.bind (intOf? .i64 (a.2.ld g.block (g.off + 5))) fun n => (if (decide (m ≥ n)) = true then (match e with | some h => (Option.bind (ptrOf? (a.2.ld h.block (h.off + 12))) fun o => (if chkOk [(14, 26), (19, 26)] [(19, d.block), (14, c.block)] [(26, (b.2, a.2))] = true then some (.bool (Option.isNone o), a.2) else none)) | none => none) else (if chkOk [(14, 26), (19, 26)] [(19, d.block), (14, c.block)] [(26, (b.2, a.2))] = true then some (.bool false, a.2) else none))) | none => none)) | none => none) else (if chkOk [(14, 26), (19, 26)] [(19, d.block), (14, c.block)] [(26, (b.2, a.2))] = true then some (.bool false, a.2) else none))))) | none => none)) | none => none)) | none => none) else some (.bool false, b.2))) | none => none)))) := by kernel_rfl
def s39_4 (a : Option Addr) (b : AMem) : List Value := .pointer a :: jk 28 []
noncomputable def F39_4 (b a : ACode) (d : Rec) := fun c e => d.loop b (blockK 0 (seqK (code d (.clear zl33 a) (retK [.tmp 2])) (retK [.tmp 2]))) (s39_4 c e) e

noncomputable def P39_4 := hid (F39_4 b39_4 c39_21)
def s39_21 (a : AMem) : List Value := jk 29 []
noncomputable def F39_21 (a : ACode) (b : Rec) := fun c => code b a (retK [.tmp 2]) (s39_21 c) c

noncomputable def P39_21 := hid (F39_21 c39_21)
theorem QP39_4_eq (z : Rec) (g d : ACode) (y : HB z g (.post (.seq (.seq (.ops o39_7) (.cond (.tmp 8) (.skip) (.exit 0))) (.block 1 (.seq (.seq (.draw [] 0 o39_14 []) (.cond (.tmp 20) (.seq (.ops o39_17) (.ret)) (.skip))) (.ops o39_20)))) zl32)) (c) (i : c = F39_4 g d) (e) (h : e = F39_21 d) (l : Option Addr) (A : AMem) : c z l A = (match l with | some m => (Option.bind (sliceOf? (A.ld m.block (m.off + 6))) fun u => (if (decide ((Int.ofNat u.2.1) > 0)) = true then (match l with | some n => (Option.bind (ptrOf? (A.ld n.block (n.off + 7))) fun v => (match l with | some o => (Option.bind (sliceOf? (A.ld o.block (o.off + 6))) fun p => (match p.1 with | some b => (if (0 : Int) ≤ 0 ∧ 0 < (Int.ofNat p.2.1) then (Option.bind (intOf? .i64 (A.ld b.block b.off)) fun w => (Option.bind (intOf? .i64 (A.ld b.block (b.off + 1))) fun x => (Option.bind (intOf? .i64 (A.ld b.block (b.off + 2))) fun q => (Option.bind (intOf? .i64 (A.ld b.block (b.off + 3))) fun r => (Option.bind (z.call 63 [.pointer v, .agg #[.int .i64 w, .int .i64 x, .int .i64 q, .int .i64 r]] A) fun f => (Option.bind (boolOf? (some f.1)) fun s => (if (!s) = true then some (.bool false, f.2) else (match l with | some j => (Option.bind (sliceOf? (f.2.ld j.block (j.off + 6))) fun a => (if (0 : Int) ≤ 1 ∧ 1 ≤ (Int.ofNat a.2.1) ∧ (Int.ofNat a.2.1) ≤ (Int.ofNat a.2.1) then (match l with | some k => (Option.bind (f.2.wr k.block (k.off + 6) [.slice (Option.map (fun B => (⟨B.block, B.off + 4, B.spot⟩ : Addr)) a.1) (Int.toNat ((Int.ofNat a.2.1) - 1)) (if a.2.2 = 4 then 4 else 0)]) fun t => c z l t) | none => none) else none)) | none => none)))))))) else none) | none => none)) | none => none)) | none => none) else e z A)) | none => none) := by
  subst i; subst h; exact (y _ _ _).trans (by kernel_rfl)
abbrev P39_4_eq (L : Rec) (hL : HL L) := QP39_4_eq L _ _ (hL b39_4) P39_4 (hE _) P39_21 (hE _)
theorem QP39_21_eq (c : Rec) (a : Rec → AMem → Res) (b : Eq a fun c d => code c (.seq (.ops o39_22) (.ret)) (retK [.tmp 2]) (s39_21 d) d) (d : AMem) : a c d = some (.bool true, d) := by
  subst b; kernel_rfl
abbrev P39_21_eq (L : Rec) := QP39_21_eq L P39_21 (hE _)
theorem QE39 (f : Rec) (b a : ACode) (c) (d : c = F39_4 b a) (e : Option Addr) (g : AMem) : enterF f ⟨29, [.tmp 2], .seq (.ops o39_1) (.seq (.block 0 (.clear zl32 (.loop b))) (.clear zl33 a))⟩ [.pointer e] g = c f e g := by
  subst d; kernel_rfl
abbrev E39 (L : Rec) (x0 : Option Addr) (M : AMem) := (Eq.refl (enterF L a39 [.pointer x0] M)).trans (QE39 L _ _ P39_4 (hE _) x0 M)
theorem E38 (u : Rec) (g : Option Addr) (v : AMem) : enterF u a38 [.pointer g] v = (match g with | some i => (Option.bind (sliceOf? (v.ld i.block (i.off + 8))) fun j => (match j.1 with | some k => (if (0 : Int) ≤ 0 ∧ 0 < (Int.ofNat j.2.1) then (Option.bind (intOf? .i64 (v.ld k.block k.off)) fun h => (match g with | some l => (Option.bind (sliceOf? (v.ld l.block (l.off + 8))) fun d => (if (0 : Int) ≤ 1 ∧ 1 ≤ (Int.ofNat d.2.1) ∧ (Int.ofNat d.2.1) ≤ (Int.ofNat d.2.1) then (match g with | some m => (Option.bind (v.wr m.block (m.off + 8) [.slice (Option.map (fun w => (⟨w.block, w.off + 1, w.spot⟩ : Addr)) d.1) (Int.toNat ((Int.ofNat d.2.1) - 1)) (if d.2.2 = 1 then 1 else 0)]) fun n => (match g with | some o => (Option.bind (ptrOf? (n.ld o.block (o.off + 7))) fun p => (Option.bind (u.call 61 [.pointer p, .int .i64 h] n) fun b => (Option.bind (sliceOf? (some b.1)) fun a => (match g with | some c => (Option.bind (intOf? .i64 (b.2.ld c.block c.off)) fun q => (Option.bind (intOf? .i64 (b.2.ld c.block (c.off + 1))) fun r => (Option.bind (u.call 62 [.agg #[.int .i64 q, .int .i64 r], .int .i64 h, .slice a.1 a.2.1 a.2.2] b.2) fun e => (Option.bind (ptrOf? (some e.1)) fun s => (match g with | some f => (Option.bind (e.2.wr f.block (f.off + 9) [.pointer s, .int .i64 h, .slice a.1 a.2.1 a.2.2]) fun t => some (.tuple #[], t)) | none => none))))) | none => none)))) | none => none)) | none => none) else none)) | none => none)) else none) | none => none)) | none => none) := by kernel_rfl
def s37_18 (a b : Nat) (c : AMem) : List Value := jk 4 (.pointer (some ⟨a, 0, none⟩) :: jk 3 (.pointer (some ⟨b, 0, none⟩) :: jk 46 []))
noncomputable def F37_18 (a : ACode) (d : Rec) := fun b c e => code d a (retK [.cell true eL 4]) (s37_18 b c e) e

noncomputable def P37_18 := hid (F37_18 c37_18)
theorem QP37_18_eq (p : Rec) (a : Rec → Nat → Nat → AMem → Res) (c : Eq a fun p d e q => code p (.seq (.ops o37_19) (.ret)) (retK [.cell true eL 4]) (s37_18 d e q) q) (d e : Nat) (q : AMem) : a p d e q = (Option.bind (intOf? .i64 (q.ld e 0)) fun h => (Option.bind (intOf? .i64 (q.ld e 1)) fun i => (Option.bind (intOf? .i64 (q.ld e 2)) fun j => (Option.bind (boolOf? (q.ld e 3)) fun k => (Option.bind (boolOf? (q.ld e 4)) fun l => (Option.bind (q.wr d 0 [.int .i64 h, .int .i64 i, .int .i64 j, .bool k, .bool l]) fun b => (Option.bind (intOf? .i64 (b.ld d 0)) fun m => (Option.bind (intOf? .i64 (b.ld d 1)) fun n => (Option.bind (intOf? .i64 (b.ld d 2)) fun o => (Option.bind (boolOf? (b.ld d 3)) fun f => (Option.bind (boolOf? (b.ld d 4)) fun g => some (.agg #[.int .i64 m, .int .i64 n, .int .i64 o, .bool f, .bool g], b)))))))))))) := by
  subst c; kernel_rfl
abbrev P37_18_eq (L : Rec) := QP37_18_eq L P37_18 (hE _)
theorem QE37 (S : Rec) (e : ACode) (b) (g : b = F37_18 e) (v Q : Option Addr) (T : AMem) : enterF S ⟨55, [.cell true eL 4], .seq (.ops o37_1) (.seq (.ops o37_3) (.seq (.draw [] 0 o37_5 [(4, 2)]) (.seq (.ops o37_7) (.seq (.draw [] 0 o37_9 [(3, 6)]) (.seq (.draw f37_11 0 o37_11 [(1, 7), (1, 11), (10, 7), (13, 7), (13, 11)]) (.seq (.seq (.ops o37_14) (.cond (.tmp 49) (.ops o37_16) (.skip))) (.clear zl31 e)))))))⟩ [.pointer v, .pointer Q] T = (match v with | some f => (Option.bind (ptrOf? (AMem.ld (T ++ [AObj.cells ev0 ⟨false, 0⟩]) f.block (f.off + 9))) fun L => (Option.bind (intOf? .i64 (AMem.ld (T ++ [AObj.cells ev0 ⟨false, 0⟩]) f.block ((f.off + 9) + 1))) fun M => (Option.bind (sliceOf? (AMem.ld (T ++ [AObj.cells ev0 ⟨false, 0⟩]) f.block ((f.off + 9) + 2))) fun t => (Option.bind (AMem.wr ((T ++ [AObj.cells ev0 ⟨false, 0⟩]) ++ [AObj.cells [.pointer none, .int .i64 0, .slice none 0 0] ⟨false, 0⟩]) (List.length (T ++ [AObj.cells ev0 ⟨false, 0⟩])) 0 [.pointer L, .int .i64 M, .slice t.1 t.2.1 t.2.2]) fun u => (Option.bind (ptrOf? (u.ld (List.length (T ++ [AObj.cells ev0 ⟨false, 0⟩])) 0)) fun N => (Option.bind (S.call 57 [.pointer N] u) fun o => (Option.bind (boolOf? (some o.1)) fun O => (Option.bind (ptrOf? (o.2.ld (List.length (T ++ [AObj.cells ev0 ⟨false, 0⟩])) 0)) fun P => (Option.bind (S.call 58 [.pointer P] o.2) fun h => (Option.bind (intOf? .i64 (some h.1)) fun w => (if chkOk [(4, 2)] [(4, (List.length (T ++ [AObj.cells ev0 ⟨false, 0⟩])))] [(2, (u, o.2))] = true then (Option.bind (ptrOf? (h.2.ld (List.length (T ++ [AObj.cells ev0 ⟨false, 0⟩])) 0)) fun x => (Option.bind (S.call 59 [.pointer x, .pointer Q] h.2) fun c => (Option.bind (boolOf? (some c.1)) fun R => (match v with | some i => (Option.bind (intOf? .i64 (c.2.ld i.block (i.off + 13))) fun y => (Option.bind (ptrOf? (c.2.ld (List.length (T ++ [AObj.cells ev0 ⟨false, 0⟩])) 0)) fun z => (Option.bind (S.call 58 [.pointer z] c.2) fun j => (Option.bind (intOf? .i64 (some j.1)) fun A => (match v with | some p => (Option.bind (j.2.wr p.block (p.off + 13) [.int .i64 (IntKind.wrap .i64 (y + (IntKind.wrap .i64 (A - w))))]) fun a => (if chkOk [(3, 6)] [(3, i.block)] [(6, (c.2, j.2))] = true then (Option.bind (intOf? .i64 (AMem.ld (a ++ [AObj.cells ev0 ⟨false, 0⟩]) (List.length (T ++ [AObj.cells ev0 ⟨false, 0⟩])) 1)) fun q => (if (!O) = true then (Option.bind (ptrOf? (AMem.ld (a ++ [AObj.cells ev0 ⟨false, 0⟩]) (List.length (T ++ [AObj.cells ev0 ⟨false, 0⟩])) 0)) fun B => (Option.bind (S.call 57 [.pointer B] (a ++ [AObj.cells ev0 ⟨false, 0⟩])) fun d => (Option.bind (boolOf? (some d.1)) fun C => (Option.bind (ptrOf? (d.2.ld (List.length (T ++ [AObj.cells ev0 ⟨false, 0⟩])) 0)) fun D => (Option.bind (S.call 60 [.pointer D] d.2) fun k => (Option.bind (boolOf? (some k.1)) fun E => (Option.bind (k.2.wr a.length 0 [.int .i64 3, .int .i64 0, .int .i64 q, .bool C, .bool E]) fun l => (if chkOk [(1, 7), (1, 11), (10, 7), (13, 7), (13, 11)] [(13, a.length), (10, (List.length (T ++ [AObj.cells ev0 ⟨false, 0⟩]))), (1, (List.length (T ++ [AObj.cells ev0 ⟨false, 0⟩])))] [(11, (d.2, k.2)), (7, ((a ++ [AObj.cells ev0 ⟨false, 0⟩]), d.2))] = true then (Option.bind (boolOf? (l.ld a.length 4)) fun F => (if F = true then (match v with | some r => (Option.bind (l.wr r.block (r.off + 9) [.pointer none, .int .i64 0, .slice none 0 0]) fun G => b S T.length a.length G) | none => none) else b S T.length a.length l)) else none)))))))) else (Option.bind (ptrOf? (AMem.ld (a ++ [AObj.cells ev0 ⟨false, 0⟩]) (List.length (T ++ [AObj.cells ev0 ⟨false, 0⟩])) 0)) fun H => (Option.bind (S.call 60 [.pointer H] (a ++ [AObj.cells ev0 ⟨false, 0⟩])) fun m => (Option.bind (boolOf? (some m.1)) fun I => (Option.bind (m.2.wr a.length 0 [.int .i64 3, .int .i64 0, .int .i64 q, .bool false, .bool I]) fun n => (if chkOk [(1, 7), (1, 11), (10, 7), (13, 7), (13, 11)] [(13, a.length), (10, (List.length (T ++ [AObj.cells ev0 ⟨false, 0⟩]))), (1, (List.length (T ++ [AObj.cells ev0 ⟨false, 0⟩])))] [(11, ((a ++ [AObj.cells ev0 ⟨false, 0⟩]), m.2)), (7, ((a ++ [AObj.cells ev0 ⟨false, 0⟩]), (a ++ [AObj.cells ev0 ⟨false, 0⟩])))] = true then (Option.bind (boolOf? (n.ld a.length 4)) fun J => (if J = true then (match v with | some s => (Option.bind (n.wr s.block (s.off + 9) [.pointer none, .int .i64 0, .slice none 0 0]) fun K => b S T.length a.length K) | none => none) else b S T.length a.length n)) else none))))))) else none)) | none => none))))) | none => none)))) else none))))))))))) | none => none) := by
  subst g; kernel_rfl
abbrev E37 (L : Rec) (x0 x1 : Option Addr) (M : AMem) := (Eq.refl (enterF L a37 [.pointer x0, .pointer x1] M)).trans (QE37 L _ P37_18 (hE _) x0 x1 M)
def s42_26 (a : Nat) (b : AMem) : List Value := jk 4 (.pointer (some ⟨a, 0, none⟩) :: jk 59 [])
noncomputable def F42_26 (a : ACode) (c : Rec) := fun b d => code c a (retK [.cell true eL 4]) (s42_26 b d) d

noncomputable def P42_26 := hid (F42_26 c42_26)
theorem QP42_26_eq (j : Rec) (a : Rec → Nat → AMem → Res) (c : Eq a fun j d k => code j (.seq (.ops o42_27) (.ret)) (retK [.cell true eL 4]) (s42_26 d k) k) (d : Nat) (k : AMem) : a j d k = (Option.bind (k.wr d 0 [.int .i64 1, .int .i64 0, .int .i64 0, .bool false, .bool false]) fun b => (Option.bind (intOf? .i64 (b.ld d 0)) fun e => (Option.bind (intOf? .i64 (b.ld d 1)) fun f => (Option.bind (intOf? .i64 (b.ld d 2)) fun g => (Option.bind (boolOf? (b.ld d 3)) fun h => (Option.bind (boolOf? (b.ld d 4)) fun i => some (.agg #[.int .i64 e, .int .i64 f, .int .i64 g, .bool h, .bool i], b))))))) := by
  subst c; kernel_rfl
abbrev P42_26_eq (L : Rec) := QP42_26_eq L P42_26 (hE _)
theorem QE42 (P : Rec) (c : ACode) (a) (d : a = F42_26 c) (i N : Option Addr) (Q : AMem) : enterF P ⟨64, [.cell true eL 4], .seq (.ops o42_1) (.seq (.ops o42_3) (.seq (.ops o42_5) (.seq (.ops o42_7) (.seq (.draw [] 0 o42_9 [(3, 5)]) (.seq (.seq (.ops o42_12) (.cond (.tmp 31) (.seq (.ops o42_15) (.seq (.ops o42_17) (.seq (.ops o42_19) (.cond (.tmp 41) (.seq (.ops o42_22) (.draw [] 0 o42_23 [])) (.skip))))) (.skip))) (.clear zl36 c))))))⟩ [.pointer i, .pointer N] Q = (match i with | some u => (Option.bind (ptrOf? (AMem.ld (Q ++ [AObj.cells ev0 ⟨false, 0⟩]) u.block (u.off + 12))) fun e => (Option.bind (P.call 66 [.pointer e] (Q ++ [AObj.cells ev0 ⟨false, 0⟩])) fun v => (Option.bind (intOf? .i64 (some v.1)) fun L => (Option.bind (P.call 67 [.pointer e, .pointer N] v.2) fun j => (Option.bind (boolOf? (some j.1)) fun O => (match i with | some s => (Option.bind (intOf? .i64 (j.2.ld s.block (s.off + 13))) fun M => (Option.bind (P.call 66 [.pointer e] j.2) fun t => (Option.bind (intOf? .i64 (some t.1)) fun w => (match i with | some k => (Option.bind (t.2.wr k.block (k.off + 13) [.int .i64 (IntKind.wrap .i64 (M + (IntKind.wrap .i64 (w - L))))]) fun x => (if chkOk [(3, 5)] [(3, s.block)] [(5, (j.2, t.2))] = true then (Option.bind (P.call 68 [.pointer e] x) fun f => (Option.bind (boolOf? (some f.1)) fun y => (if y = true then (match i with | some l => (Option.bind (f.2.wr l.block (l.off + 12) [.pointer none]) fun z => (Option.bind (P.call 69 [.pointer e] z) fun g => (Option.bind (tupOf? 3 g.1) fun b => (Option.bind (b[0]?) fun A => (Option.bind (intOf? .i64 (some A)) fun B => (Option.bind (b[1]?) fun C => (Option.bind (intOf? .i64 (some C)) fun D => (Option.bind (b[2]?) fun E => (Option.bind (boolOf? (some E)) fun F => (if F = true then (match i with | some m => (Option.bind (g.2.wr m.block (m.off + 4) [.int .i64 B]) fun G => (match i with | some n => (Option.bind (G.wr n.block (n.off + 5) [.int .i64 D]) fun h => (match i with | some o => (Option.bind (sliceOf? (h.ld o.block (o.off + 3))) fun H => (match i with | some p => (Option.bind (intOf? .i64 (h.ld p.block (p.off + 2))) fun I => (Option.bind (P.call 28 [.int .i64 (Int.ofNat H.2.1), .int .i64 I] h) fun q => (Option.bind (ptrOf? (some q.1)) fun J => (match i with | some r => (Option.bind (q.2.wr r.block (r.off + 12) [.pointer J]) fun K => a P Q.length K) | none => none)))) | none => none)) | none => none)) | none => none)) | none => none) else a P Q.length g.2)))))))))) | none => none) else a P Q.length f.2))) else none)) | none => none)))) | none => none)))))) | none => none) := by
  subst d; kernel_rfl
abbrev E42 (L : Rec) (x0 x1 : Option Addr) (M : AMem) := (Eq.refl (enterF L a42 [.pointer x0, .pointer x1] M)).trans (QE42 L _ P42_26 (hE _) x0 x1 M)
theorem E41 (v : Rec) (e : Option Addr) (w : AMem) : enterF v a41 [.pointer e] w = (match e with | some h => (Option.bind (sliceOf? (AMem.ld (w ++ [AObj.cells ev0 ⟨false, 0⟩]) h.block (h.off + 3))) fun i => (match e with | some j => (Option.bind (intOf? .i64 (AMem.ld (w ++ [AObj.cells ev0 ⟨false, 0⟩]) j.block (j.off + 4))) fun f => (match i.1 with | some k => (if (0 : Int) ≤ f ∧ f < (Int.ofNat i.2.1) then (Option.bind (sliceOf? (AMem.ld (w ++ [AObj.cells ev0 ⟨false, 0⟩]) k.block (k.off + ((Int.toNat f) * 1)))) fun g => (match e with | some l => (Option.bind (AMem.wr (w ++ [AObj.cells ev0 ⟨false, 0⟩]) l.block (l.off + 6) [.slice g.1 g.2.1 g.2.2]) fun m => (match e with | some n => (Option.bind (intOf? .i64 (m.ld n.block (n.off + 4))) fun o => (match e with | some b => (Option.bind (m.wr b.block (b.off + 4) [.int .i64 (IntKind.wrap .i64 (o + 1))]) fun c => (match e with | some d => (Option.bind (intOf? .i64 (c.ld d.block (d.off + 4))) fun p => (Option.bind (c.wr w.length 0 [.int .i64 2, .int .i64 (IntKind.wrap .i64 (p - 1)), .int .i64 0, .bool false, .bool false]) fun a => (Option.bind (intOf? .i64 (a.ld w.length 0)) fun q => (Option.bind (intOf? .i64 (a.ld w.length 1)) fun r => (Option.bind (intOf? .i64 (a.ld w.length 2)) fun s => (Option.bind (boolOf? (a.ld w.length 3)) fun t => (Option.bind (boolOf? (a.ld w.length 4)) fun u => some (.agg #[.int .i64 q, .int .i64 r, .int .i64 s, .bool t, .bool u], a)))))))) | none => none)) | none => none)) | none => none)) | none => none)) else none) | none => none)) | none => none)) | none => none) := by kernel_rfl
def s15_14 (a b : Option Addr) (c : Nat) (d : AMem) : List Value := .pointer a :: .pointer b :: jk 2 (.pointer (some ⟨c, 0, none⟩) :: jk 82 [])
noncomputable def F15_14 (a b : ACode) (f : Rec) := fun c d e g => code f a (scopeK 0 (code f (.clear zl21 b) (noK 0 (retK [.cell true eL 4]))) (retK [.cell true eL 4])) (s15_14 c d e g) g

noncomputable def P15_14 := hid (F15_14 c15_14 c15_61)
def s15_16 (a b : Option Addr) (c : Nat) (d : AMem) : List Value := .pointer a :: .pointer b :: jk 2 (.pointer (some ⟨c, 0, none⟩) :: jk 82 [])
noncomputable def F15_16 (b c a : ACode) (g : Rec) := fun d e f h => g.loop b (blockK 0 (seqK (code g (.clear zl22 c) (scopeK 0 (code g (.clear zl21 a) (noK 0 (retK [.cell true eL 4]))) (retK [.cell true eL 4]))) (scopeK 0 (code g (.clear zl21 a) (noK 0 (retK [.cell true eL 4]))) (retK [.cell true eL 4])))) (s15_16 d e f h) h

noncomputable def P15_16 := hid (F15_16 b15_16 c15_58 c15_61)
def s15_58 (a : Nat) (b : AMem) : List Value := jk 4 (.pointer (some ⟨a, 0, none⟩) :: jk 82 [])
noncomputable def F15_58 (a b : ACode) (d : Rec) := fun c e => code d a (scopeK 0 (code d (.clear zl21 b) (noK 0 (retK [.cell true eL 4]))) (retK [.cell true eL 4])) (s15_58 c e) e

noncomputable def P15_58 := hid (F15_58 c15_58 c15_61)
theorem QP15_14_eq (k : Rec) (a b c : ACode) (d : Rec → (Option Addr) → (Option Addr) → Nat → AMem → Res) (f : Eq d fun k h i j l => code k (.seq (.block 0 (.clear zl21 (.loop a))) (.clear zl22 b)) (scopeK 0 (code k (.clear zl21 c) (noK 0 (retK [.cell true eL 4]))) (retK [.cell true eL 4])) (s15_14 h i j l) l) (e) (g : e = F15_16 a b c) (h i : Option Addr) (j : Nat) (l : AMem) : d k h i j l = e k h i j l := by
  subst f; subst g; kernel_rfl
abbrev P15_14_eq (L : Rec) := QP15_14_eq L _ _ _ P15_14 (hE _) P15_16 (hE _)
theorem QP15_16_eq (aS : Rec) (k l m : ACode) (aR : HB aS k (.post (.block 1 (.seq (.block 2 (.seq (.ops o15_21) (.cond (.tmp 19) (.seq (.ops o15_24) (.ret)) (.seq (.ops o15_27) (.cond (.tmp 29) (.seq (.ops o15_30) (.exit 1)) (.seq (.ops o15_33) (.cond (.tmp 38) (.seq (.ops o15_36) (.exit 1)) (.seq (.draw [] 0 o15_39 []) (.cond (.tmp 50) (.seq (.ops o15_42) (.ret)) (.seq (.ops o15_45) (.cond (.tmp 62) (.seq (.ops o15_48) (.ret)) (.seq (.ops o15_51) (.cond (.tmp 71) (.seq (.ops o15_54) (.exit 1)) (.skip)))))))))))))) (.exit 0))) zl21)) (b) (p : b = F15_16 k l m) (n) (q : n = F15_58 l m) (i H : Option Addr) (c : Nat) (aT : AMem) : b aS i H c aT = (match i with | some I => (Option.bind (ptrOf? (aT.ld I.block (I.off + 9))) fun aK => (if (!(Option.isNone aK)) = true then (Option.bind (aS.call 37 [.pointer i, .pointer H] aT) fun J => (Option.bind (aggOf? 5 J.1) fun j => (Option.bind (intOf? .i64 (j[0]?)) fun aL => (Option.bind (intOf? .i64 (j[1]?)) fun aM => (Option.bind (intOf? .i64 (j[2]?)) fun aN => (Option.bind (boolOf? (j[3]?)) fun aO => (Option.bind (boolOf? (j[4]?)) fun aP => (Option.bind (J.2.wr c 0 [.int .i64 aL, .int .i64 aM, .int .i64 aN, .bool aO, .bool aP]) fun f => (Option.bind (intOf? .i64 (f.ld c 0)) fun K => (Option.bind (intOf? .i64 (f.ld c 1)) fun L => (Option.bind (intOf? .i64 (f.ld c 2)) fun M => (Option.bind (boolOf? (f.ld c 3)) fun N => (Option.bind (boolOf? (f.ld c 4)) fun O => some (.agg #[.int .i64 K, .int .i64 L, .int .i64 M, .bool N, .bool O], f)))))))))))))) else (match i with | some t => (Option.bind (sliceOf? (aT.ld t.block (t.off + 8))) fun P => (if (decide ((Int.ofNat P.2.1) > 0)) = true then (Option.bind (aS.call 38 [.pointer i] aT) fun u => (Option.bind (tupOf? 0 u.1) fun aQ => b aS i H c u.2)) else (Option.bind (aS.call 39 [.pointer i] aT) fun a => (Option.bind (boolOf? (some a.1)) fun Q => (if (!Q) = true then (match i with | some v => (Option.bind (ptrOf? (a.2.ld v.block (v.off + 7))) fun R => (Option.bind (aS.call 40 [.pointer R] a.2) fun w => (Option.bind (sliceOf? (some w.1)) fun r => (match i with | some x => (Option.bind (w.2.wr x.block (x.off + 8) [.slice r.1 r.2.1 r.2.2]) fun S => b aS i H c S) | none => none)))) | none => none) else (match i with | some y => (Option.bind (intOf? .i64 (a.2.ld y.block (y.off + 4))) fun T => (match i with | some z => (Option.bind (intOf? .i64 (a.2.ld z.block (z.off + 5))) fun U => (if (decide (T < U)) = true then (Option.bind (aS.call 41 [.pointer i] a.2) fun A => (Option.bind (aggOf? 5 A.1) fun d => (Option.bind (intOf? .i64 (d[0]?)) fun V => (Option.bind (intOf? .i64 (d[1]?)) fun W => (Option.bind (intOf? .i64 (d[2]?)) fun X => (Option.bind (boolOf? (d[3]?)) fun Y => (Option.bind (boolOf? (d[4]?)) fun Z => (Option.bind (A.2.wr c 0 [.int .i64 V, .int .i64 W, .int .i64 X, .bool Y, .bool Z]) fun g => (Option.bind (intOf? .i64 (g.ld c 0)) fun a0 => (Option.bind (intOf? .i64 (g.ld c 1)) fun a1 => (Option.bind (intOf? .i64 (g.ld c 2)) fun a2 => (Option.bind (boolOf? (g.ld c 3)) fun a3 => (Option.bind (boolOf? (g.ld c 4)) fun a4 => some (.agg #[.int .i64 a0, .int .i64 a1, .int .i64 a2, .bool a3, .bool a4], g)))))))))))))) else (match i with | some B => (Option.bind (ptrOf? (a.2.ld B.block (B.off + 12))) fun a5 => (if (!(Option.isNone a5)) = true then (Option.bind (aS.call 42 [.pointer i, .pointer H] a.2) fun C => (Option.bind (aggOf? 5 C.1) fun e => (Option.bind (intOf? .i64 (e[0]?)) fun a6 => (Option.bind (intOf? .i64 (e[1]?)) fun a7 => (Option.bind (intOf? .i64 (e[2]?)) fun a8 => (Option.bind (boolOf? (e[3]?)) fun a9 => (Option.bind (boolOf? (e[4]?)) fun aA => (Option.bind (C.2.wr c 0 [.int .i64 a6, .int .i64 a7, .int .i64 a8, .bool a9, .bool aA]) fun h => (Option.bind (intOf? .i64 (h.ld c 0)) fun aB => (Option.bind (intOf? .i64 (h.ld c 1)) fun aC => (Option.bind (intOf? .i64 (h.ld c 2)) fun aD => (Option.bind (boolOf? (h.ld c 3)) fun aE => (Option.bind (boolOf? (h.ld c 4)) fun aF => some (.agg #[.int .i64 aB, .int .i64 aC, .int .i64 aD, .bool aE, .bool aF], h)))))))))))))) else (match i with | some D => (Option.bind (ptrOf? (a.2.ld D.block (D.off + 7))) fun aG => (Option.bind (aS.call 33 [.pointer aG] a.2) fun o => (Option.bind (intOf? .i64 (some o.1)) fun aH => (if (decide (aH > 0)) = true then (match i with | some E => (Option.bind (ptrOf? (o.2.ld E.block (E.off + 7))) fun aI => (Option.bind (aS.call 40 [.pointer aI] o.2) fun F => (Option.bind (sliceOf? (some F.1)) fun s => (match i with | some G => (Option.bind (F.2.wr G.block (G.off + 8) [.slice s.1 s.2.1 s.2.2]) fun aJ => b aS i H c aJ) | none => none)))) | none => none) else n aS c o.2)))) | none => none))) | none => none))) | none => none)) | none => none)))))) | none => none))) | none => none) := by
  subst p; subst q; exact (aR _ _ _).trans (by kernel_rfl)
abbrev P15_16_eq (L : Rec) (hL : HL L) := QP15_16_eq L _ _ _ (hL b15_16) P15_16 (hE _) P15_58 (hE _)
theorem QP15_58_eq (k : Rec) (d : ACode) (a : Rec → Nat → AMem → Res) (c : Eq a fun k e l => code k (.seq (.ops o15_59) (.ret)) (scopeK 0 (code k (.clear zl21 d) (noK 0 (retK [.cell true eL 4]))) (retK [.cell true eL 4])) (s15_58 e l) l) (e : Nat) (l : AMem) : a k e l = (Option.bind (l.wr e 0 ev0) fun b => (Option.bind (intOf? .i64 (b.ld e 0)) fun f => (Option.bind (intOf? .i64 (b.ld e 1)) fun g => (Option.bind (intOf? .i64 (b.ld e 2)) fun h => (Option.bind (boolOf? (b.ld e 3)) fun i => (Option.bind (boolOf? (b.ld e 4)) fun j => some (.agg #[.int .i64 f, .int .i64 g, .int .i64 h, .bool i, .bool j], b))))))) := by
  subst c; kernel_rfl
abbrev P15_58_eq (L : Rec) := QP15_58_eq L _ P15_58 (hE _)
theorem QE15 (B : Rec) (c d : ACode) (e) (h : e = F15_14 c d) (t u : Option Addr) (C : AMem) : enterF B ⟨87, [.cell true eL 4], .seq (.ops o15_1) (.scope 0 (.seq (.seq (.draw [] 0 o15_5 [(9, 5)]) (.cond (.tmp 17) (.seq (.ops o15_8) (.ret)) (.skip))) (.seq (.block 1000000000 (.skip)) (.clear zl21 c))) (.clear zl21 d))⟩ [.pointer t, .pointer u] C = (Option.bind (B.call 32 [.pointer t] (C ++ [AObj.cells ev0 ⟨false, 0⟩])) fun i => (Option.bind (boolOf? (some i.1)) fun v => (if (!v) = true then (Option.bind (i.2.wr C.length 0 ev0) fun f => (Option.bind (intOf? .i64 (f.ld C.length 0)) fun w => (Option.bind (intOf? .i64 (f.ld C.length 1)) fun x => (Option.bind (intOf? .i64 (f.ld C.length 2)) fun y => (Option.bind (boolOf? (f.ld C.length 3)) fun z => (Option.bind (boolOf? (f.ld C.length 4)) fun A => some (.agg #[.int .i64 w, .int .i64 x, .int .i64 y, .bool z, .bool A], f))))))) else (Option.bind (B.call 36 [.pointer u] i.2) fun g => (Option.bind (intOf? .i64 (some g.1)) fun j => (match t with | some b => (Option.bind (intOf? .i64 (g.2.ld b.block b.off)) fun k => (Option.bind (intOf? .i64 (g.2.ld b.block (b.off + 1))) fun l => (Option.bind (B.call 24 [.agg #[.int .i64 k, .int .i64 l]] []) fun m => (Option.bind (intOf? .i64 (some m.1)) fun n => (if chkOk [(9, 5)] [(9, b.block)] [(5, (i.2, g.2))] = true then (if (j != n) = true then (Option.bind (g.2.wr C.length 0 ev0) fun a => (Option.bind (intOf? .i64 (a.ld C.length 0)) fun o => (Option.bind (intOf? .i64 (a.ld C.length 1)) fun p => (Option.bind (intOf? .i64 (a.ld C.length 2)) fun q => (Option.bind (boolOf? (a.ld C.length 3)) fun r => (Option.bind (boolOf? (a.ld C.length 4)) fun s => some (.agg #[.int .i64 o, .int .i64 p, .int .i64 q, .bool r, .bool s], a))))))) else e B t u C.length g.2) else none))))) | none => none)))))) := by
  subst h; kernel_rfl
abbrev E15 (L : Rec) (x0 x1 : Option Addr) (M : AMem) := (Eq.refl (enterF L a15 [.pointer x0, .pointer x1] M)).trans (QE15 L _ _ P15_14 (hE _) x0 x1 M)
theorem E20 (f : Rec) (e : Option Addr) (g : AMem) : enterF f a20 [.pointer e] g = (if (Option.isNone e) = true then some (.slice none 0 0, g) else (match e with | some c => (Option.bind (sliceOf? (g.ld c.block ((c.off + 9) + 2))) fun a => (Option.bind (f.call 47 [.slice a.1 a.2.1 a.2.2] g) fun d => (Option.bind (sliceOf? (some d.1)) fun b => some (.slice b.1 b.2.1 b.2.2, d.2)))) | none => none)) := by kernel_rfl
theorem E18 (d : Rec) (b : Option Addr) (e : AMem) : enterF d a18 [.pointer b] e = (if (Option.isNone b) = true then some (.int .i64 0, e) else (match b with | some a => (Option.bind (intOf? .i64 (e.ld a.block (a.off + 13))) fun c => some (.int .i64 c, e)) | none => none)) := by kernel_rfl
theorem E47 (i : Rec) (d : Option Addr) (a c : Nat) (j : AMem) : enterF i a47 [.slice d a c] j = (if (Option.isNone d) = true then some (.slice none 0 0, j) else (Option.bind (rowOf (j ++ [AObj.cells [] ⟨false, 0⟩]) 4 (.slice d a c)) fun b => (appendK 4 32 (some ⟨j.length, 0, none⟩) 0 4 a b (j ++ [AObj.cells [] ⟨false, 0⟩]) fun e f g h => some (.slice e f g, h)))) := by kernel_rfl
structure PB where
  b : Nat
  mp : Nat
  q : Option Addr
  qc : Nat
  kp : Option Addr
  kc : Nat
  pp : Option Addr
  pc : Nat
  f : Nat
  fp : Option Addr
  fc : Nat
  ep : Option Addr
  ec : Nat
  c : Nat
abbrev encI (x : Int) : List Value := [.int .i64 x]
def jobC (B : PB) (σ : WS) : List Value := if σ.has = true then [pt B.f, .int .i64 σ.st, .slice B.ep σ.en.length B.ec] else [.pointer none, .int .i64 0, .slice none 0 0]
theorem jobC_length (B : PB) (σ : WS) : (jobC B σ).length = 3 := by unfold jobC; split <;> rfl
def clC (B : PB) (σ : WS) : Value := .pointer (if σ.over = true then none else some ⟨B.c, 0, none⟩)
def encW (P : WP) (tp : Option Addr) (B : PB) (σ : WS) : List Value :=
  [.int .i64 P.p, .int .i64 P.s, .int .i64 P.size, .slice tp P.tb.length 0, .int .i64 σ.fr, .int .i64 σ.to, .slice B.pp σ.pl.length B.pc, pt B.b, .slice B.kp σ.ks.length B.kc] ++ (jobC B σ ++ [clC B σ, .int .i64 (σ.lost : Int)])
theorem encW_length (P : WP) (tp : Option Addr) (B : PB) (σ : WS) : (encW P tp B σ).length = 14 := by simp [encW, jobC_length]
structure RsP (ρ : Cl) (k N : Nat) (P : WP) (M : AMem) (B : PB) (σ : WS) : Prop where
  bf : IsBuf M B.b B.mp B.q B.qc P.p P.s P.room σ.es
  cb : Col M ρ (bufB B.b B.mp B.q) (k, 1)
  pd : View encS 4 M B.pp σ.pl
  cp : σ.pl ≠ [] → ∀ z ∈ blk B.pp, z < N
  kv : View encI 1 M B.kp σ.ks
  ck : Col M ρ (blk B.kp) (k, 2)
  fl : σ.has = true → IsFl M B.f B.fp B.fc σ.fs ∧ Col M ρ (B.f :: blk B.fp) (k, 3) ∧ RdL M encE B.ep σ.en.length σ.en ∧ Col M ρ (blk B.ep) (k, 4)
  cl : σ.over = false → Cells M B.c (Bt.encC P.all P.size σ.cs) ∧ ρ B.c = (k, 5)
  lt : N ≤ M.length
  c0 : ∀ z, z < N → ρ z = (0, 0)
structure IsP (ρ : Cl) (k N : Nat) (P : WP) (tp : Option Addr) (M : AMem) (w : Nat) (B : PB) (σ : WS) : Prop where
  hd : Cells M w (encW P tp B σ)
  cw : ρ w = (k, 0)
  rs : RsP ρ k N P M B σ
theorem view_arg {α : Type} {enc : α → List Value} {n N : Nat} {K : Nat × Nat → Prop} {ρ ρ' : Cl} {M M' : AMem} {p : Option Addr} {l : List α} (h : View enc n M p l) (hb : l ≠ [] → ∀ z ∈ blk p, z < N) (hN : N ≤ M.length) (c0 : ∀ z, z < N → ρ z = (0, 0)) (e : Ext K ρ M ρ' M') (h0 : ¬ K (0, 0)) : View enc n M' p l := fun hl => by
  obtain ⟨S, t, hS⟩ := e.same
  exact h.same t (fun z hz => hS z (Nat.lt_of_lt_of_le (hb hl z hz) hN) (by rw [c0 z (hb hl z hz)]; exact h0)) hl
theorem RsP.ext {K : Nat × Nat → Prop} {ρ ρ' : Cl} {k N : Nat} {P : WP} {M M' : AMem} {B : PB} {σ : WS} (h : RsP ρ k N P M B σ) (e : Ext K ρ M ρ' M') (hk : ∀ r, r ≠ 0 → ¬ K (k, r)) (h0 : ¬ K (0, 0)) : RsP ρ' k N P M' B σ := by
  obtain ⟨S, t, hS⟩ := e.same
  refine ⟨h.bf.same t (Ext.free h.cb hS (hk 1 (by decide))), h.cb.ext e, view_arg h.pd h.cp h.lt h.c0 e h0, h.cp, h.kv.same t (Ext.free h.ck hS (hk 2 (by decide))), h.ck.ext e, fun hh => ?_, fun ho => ?_, Nat.le_trans h.lt e.le, fun z hz => ?_⟩
  · obtain ⟨a1, a2, a3, a4⟩ := h.fl hh
    have f := Ext.free a2 hS (hk 3 (by decide))
    exact ⟨a1.same t (f _ (by simp)) (fun b hb => f b (by simp [hb])), a2.ext e, a3.same t (Ext.free a4 hS (hk 4 (by decide))), a4.ext e⟩
  · obtain ⟨a1, a2⟩ := h.cl ho
    exact ⟨cells_ext a1 e (by rw [a2]; exact hk 5 (by decide)), by rw [e.col _ a1.lt, a2]⟩
  · rw [e.col z (Nat.lt_of_lt_of_le hz h.lt)]; exact h.c0 z hz
theorem IsP.ext {K : Nat × Nat → Prop} {ρ ρ' : Cl} {k N : Nat} {P : WP} {tp : Option Addr} {M M' : AMem} {w : Nat} {B : PB} {σ : WS} (h : IsP ρ k N P tp M w B σ) (e : Ext K ρ M ρ' M') (hk : ∀ r, ¬ K (k, r)) (h0 : ¬ K (0, 0)) : IsP ρ' k N P tp M' w B σ :=
  ⟨cells_ext h.hd e (by rw [h.cw]; exact hk 0), by rw [e.col w h.hd.lt, h.cw], h.rs.ext e (fun r _ => hk r) h0⟩
theorem RsP.buf {ρ ρ' : Cl} {k N : Nat} {P : WP} {M M' : AMem} {B : PB} {σ : WS} (h : RsP ρ k N P M B σ) (hk : k ≠ 0) (e : Ext (fun c => c = (k, 1)) ρ M ρ' M') {b mp : Nat} {q : Option Addr} {qc : Nat} {es : List En} (hb : IsBuf M' b mp q qc P.p P.s P.room es) (hc : Col M' ρ' (bufB b mp q) (k, 1)) :
    RsP ρ' k N P M' { B with b := b, mp := mp, q := q, qc := qc } { σ with es := es } := by
  obtain ⟨S, t, hS⟩ := e.same
  have kk : ∀ r, r ≠ 1 → ¬ (k, r) = (k, 1) := fun r hr h => hr (congrArg Prod.snd h)
  refine ⟨hb, hc, view_arg h.pd h.cp h.lt h.c0 e (fun h => hk (congrArg Prod.fst h).symm), h.cp, h.kv.same t (Ext.free (K := fun c => c = (k, 1)) h.ck hS (kk 2 (by decide))), h.ck.ext e, fun hh => ?_, fun ho => ?_, Nat.le_trans h.lt e.le, fun z hz => ?_⟩
  · obtain ⟨a1, a2, a3, a4⟩ := h.fl hh
    have f := Ext.free (K := fun c => c = (k, 1)) a2 hS (kk 3 (by decide))
    exact ⟨a1.same t (f _ (by simp)) (fun b hb => f b (by simp [hb])), a2.ext e, a3.same t (Ext.free (K := fun c => c = (k, 1)) a4 hS (kk 4 (by decide))), a4.ext e⟩
  · obtain ⟨a1, a2⟩ := h.cl ho
    exact ⟨cells_ext a1 e (by rw [a2]; exact kk 5 (by decide)), by rw [e.col _ a1.lt, a2]⟩
  · rw [e.col z (Nat.lt_of_lt_of_le hz h.lt)]; exact h.c0 z hz
section
variable {ρ : Cl} {k N : Nat} {P : WP} {tp : Option Addr} {M : AMem} {w : Nat} {B : PB} {σ : WS}
theorem job_get (B : PB) (σ : WS) : ∃ a b c, jobC B σ = [a, b, c] ∧ a = .pointer (if σ.has = true then some ⟨B.f, 0, none⟩ else none) ∧ (σ.has = true → b = .int .i64 σ.st ∧ c = .slice B.ep σ.en.length B.ec) ∧ (σ.has = false → c = .slice none 0 0) := by
  unfold jobC
  cases hh : σ.has with
  | true => exact ⟨_, _, _, by simp only [if_true], rfl, fun _ => ⟨rfl, rfl⟩, fun h => by cases h⟩
  | false => exact ⟨_, .int .i64 0, _, by simp only [Bool.false_eq_true, if_false], rfl, fun h => by (cases h), fun _ => rfl⟩
theorem IsP.at (h : IsP ρ k N P tp M w B σ) :
    (M.ld w 0 = some (.int .i64 P.p) ∧ M.ld w 1 = some (.int .i64 P.s) ∧ M.ld w 2 = some (.int .i64 P.size) ∧ M.ld w 3 = some (.slice tp P.tb.length 0) ∧ M.ld w 4 = some (.int .i64 σ.fr) ∧ M.ld w 5 = some (.int .i64 σ.to) ∧ M.ld w 6 = some (.slice B.pp σ.pl.length B.pc) ∧ M.ld w 7 = some (pt B.b) ∧ M.ld w 8 = some (.slice B.kp σ.ks.length B.kc)) ∧
    M.ld w 9 = some (.pointer (if σ.has = true then some ⟨B.f, 0, none⟩ else none)) ∧ M.ld w 12 = some (clC B σ) ∧ M.ld w 13 = some (.int .i64 (σ.lost : Int)) := by
  obtain ⟨a, b, c, e, ha, _⟩ := job_get B σ
  refine ⟨⟨h.hd.ld 0, h.hd.ld 1, h.hd.ld 2, h.hd.ld 3, h.hd.ld 4, h.hd.ld 5, h.hd.ld 6, h.hd.ld 7, h.hd.ld 8⟩, ?_, ?_, ?_⟩
  · rw [h.hd.ld]; unfold encW; rw [e, ha]; rfl
  · rw [h.hd.ld]; unfold encW; rw [e]; rfl
  · rw [h.hd.ld]; unfold encW; rw [e]; rfl
theorem pgiven (h : IsP ρ k N P tp M w B σ) : LL.call 32 [pt w] M = some (.bool true, M) := by
  rw [L_call32, E32]
  have l7 := h.at.1.2.2.2.2.2.2.2.1
  simp only [Option.isNone_some, Bool.not_false, if_true, Nat.zero_add]
  rw [bLP l7]
  rfl
theorem plost (h : IsP ρ k N P tp M w B σ) : LL.call 18 [pt w] M = some (.int .i64 (σ.lost : Int), M) := by
  rw [L_call18, E18]
  have l13 := h.at.2.2.2
  simp only [Option.isNone_some, Bool.false_eq_true, if_false, Nat.zero_add]
  rw [bLI l13]
theorem pdone (h : IsP ρ k N P tp M w B σ) (hn : σ.ks.length ≤ 1000000 ∧ σ.pl.length ≤ 1000000) : LL.call 13 [pt w] M = some (.bool (doneW σ), M) := by
  rw [L_call13, E13, bX (pgiven h), bB, ifNT]
  obtain ⟨⟨l0, l1, l2, l3, l4, l5, l6, l7, l8⟩, l9, l12, l13⟩ := h.at
  have hrm := h.rs.bf.rm
  simp only [Nat.zero_add]
  rw [bLP l9]
  unfold doneW
  cases hh : σ.has with
  | true => rfl
  | false =>
    have e1 : IntKind.wrap .i64 ((σ.ks.length : Int) + (σ.pl.length : Int)) = (σ.ks.length : Int) + (σ.pl.length : Int) := w64 (by omega)
    have e2 : IntKind.wrap .i64 ((σ.ks.length : Int) + (σ.pl.length : Int) + (σ.es.length : Int)) = (σ.ks.length : Int) + (σ.pl.length : Int) + (σ.es.length : Int) := w64 (by omega)
    have hc : ∀ a b, chkOk [(14, 26), (19, 26)] [(19, a), (14, b)] [(26, (M, M))] = true := fun a b => by simp [chkOk, List.lookup]
    rw [show Option.isNone (if false = true then some (⟨B.f, 0, none⟩ : Addr) else none) = true from rfl, ifT]
    rw [bLS l8]
    simp only
    rw [bLS l6, bLP l7, bX (blen_spec h.rs.bf), bI]
    simp only [hc, if_true, e1, e2, ofN]
    by_cases z : (σ.ks.length : Int) + (σ.pl.length : Int) + (σ.es.length : Int) = 0
    · obtain ⟨z1, z2, z3⟩ : σ.ks = [] ∧ σ.pl = [] ∧ σ.es = [] := ⟨List.length_eq_zero_iff.1 (by omega), List.length_eq_zero_iff.1 (by omega), List.length_eq_zero_iff.1 (by omega)⟩
      rw [show ((σ.ks.length : Int) + (σ.pl.length : Int) + (σ.es.length : Int) == 0) = true from beq_iff_eq.2 z, ifT, bLI l4, bLI l5, z1, z2, z3]
      by_cases c : σ.fr ≥ σ.to
      · rw [ifD c, decide_eq_true c, show M.ld w 12 = some (clC B σ) from l12]
        unfold clC
        rw [bP]
        cases σ.over <;> rfl
      · rw [ifDn c, decide_eq_false c]; rfl
    · rw [show ((σ.ks.length : Int) + (σ.pl.length : Int) + (σ.es.length : Int) == 0) = false from beq_eq_false_iff_ne.2 z, ifF]
      congr 3
      cases h1 : σ.ks with
      | cons => rfl
      | nil => cases h2 : σ.pl with
        | cons => rfl
        | nil => cases h3 : σ.es with
          | cons => simp
          | nil => rw [h1, h2, h3] at z; simp at z
theorem pflush (h : IsP ρ k N P tp M w B σ) (hn : σ.en.length ≤ 1000000) :
    ∃ M' o oc, LL.call 20 [pt w] M = some (.slice o (if σ.has = true then σ.en.length else 0) oc, M') ∧ Same M M' [] ∧ RdL M' encE o (if σ.has = true then σ.en.length else 0) (if σ.has = true then σ.en else []) := by
  rw [L_call20, E20]
  obtain ⟨a, b, c, e, ha, h1, h2⟩ := job_get B σ
  have l11 : M.ld w 11 = some c := by rw [h.hd.ld]; unfold encW; rw [e]; rfl
  simp only [Option.isNone_some, Bool.false_eq_true, if_false, Nat.zero_add]
  cases hh : σ.has with
  | false =>
    rw [h2 hh] at l11
    rw [bLS l11, L_call47, E47]
    exact ⟨M, none, 0, rfl, .refl _ _, rfl, fun h => by simp at h⟩
  | true =>
    rw [(h1 hh).2] at l11
    rw [bLS l11, L_call47, E47]
    obtain ⟨_, _, a3, _⟩ := h.rs.fl hh
    by_cases z : σ.en.length = 0
    · have hnil : σ.en = [] := List.length_eq_zero_iff.1 z
      rw [hnil]
      cases hep : B.ep with
      | none =>
        exact ⟨M, none, 0, rfl, .refl _ _, rfl, fun h => by simp at h⟩
      | some ad =>
        have s0 := same_app M [AObj.cells [] ⟨false, 0⟩]
        refine ⟨M ++ [AObj.cells [] ⟨false, 0⟩], some ⟨M.length, 0, none⟩, 4, ?_, s0, rfl, fun h => by simp at h⟩
        simp [rowOf, appendK, sliceOf?]
    · obtain ⟨z', rfl', k3⟩ := a3.2 (by omega)
      rw [rfl', show Option.isNone (some (⟨z', 0, none⟩ : Addr)) = false from rfl, ifF]
      have s0 := same_app M [AObj.cells [] ⟨false, 0⟩]
      have g0 := cells_new M [] 0
      have l0 : (M ++ [AObj.cells [] ⟨false, 0⟩]).length = M.length + 1 := by simp
      generalize M ++ [AObj.cells [] ⟨false, 0⟩] = M0 at s0 g0 l0 ⊢
      have hz := k3.same s0 (by simp)
      have hlen : (σ.en.flatMap encE).length = σ.en.length * 4 := flatMap_length encE_length σ.en
      have hrow : rowOf M0 4 (.slice (some ⟨z', 0, none⟩) σ.en.length B.ec) = some (σ.en.flatMap encE) := by
        rw [rowOf_some hz (by omega), List.drop_zero, ← hlen, List.take_length]
      rw [bX hrow]
      have hs : Slc M0 4 (some ⟨M.length, 0, none⟩) 0 4 [] := Slc.of g0 rfl
      obtain ⟨M', q1, q2, q3, q4⟩ := append_own (bytes := 32) (new := σ.en.flatMap encE) (m := σ.en.length) hs hlen z (by omega)
      rw [q1]
      rw [Nat.zero_add] at q2 ⊢
      obtain ⟨a', e', q5⟩ := q2.pos (by omega)
      exact ⟨M', _, 4, rfl, (s0.trans q3).mono' (fun b hb hl => by simp at hb; omega), rfl, fun _ => ⟨a', e', by simpa using q5.rd⟩⟩
end
def SpOk (P : WP) (x : Sp) : Prop := (0 ≤ x.px ∧ x.px < P.p) ∧ Wt x.r x.g x.b
abbrev Mine (k : Nat) : Nat × Nat → Prop := fun c => c.1 = k
theorem pput {ρ : Cl} {k N : Nat} {P : WP} {tp : Option Addr} {M : AMem} {w : Nat} {B : PB} {σ : WS} (hk : k ≠ 0) (h : IsP ρ k N P tp M w B σ) {x : Sp} (hx : SpOk P x) :
    ∃ M' ρ' B', LL.call 63 [bp B.b, .agg #[.int .i64 x.px, .int .i64 x.r, .int .i64 x.g, .int .i64 x.b]] M = some (.bool (putE P.room x.px x.r x.g x.b σ.es).isSome, M') ∧ IsP ρ' k N P tp M' w B' { σ with es := (putE P.room x.px x.r x.g x.b σ.es).getD σ.es } ∧ Ext (Mine k) ρ M ρ' M' ∧ B'.pp = B.pp ∧ B'.pc = B.pc := by
  obtain ⟨M', q', qc', e1, e2, e3, e4⟩ := put_all x.px x.r x.g x.b h.rs.bf hx.1 hx.2
  have e : Ext (fun c => c = (k, 1)) ρ M (upd ρ M.length fun _ => (k, 1)) M' := Ext.upd e3 (fun z hz _ => (h.rs.cb z hz).2) _
  have hc : Col M' (upd ρ M.length fun _ => (k, 1)) (bufB B.b B.mp q') (k, 1) := fun z hz => by
    refine ⟨e2.lt z hz, ?_⟩
    by_cases hl : z < M.length
    · rw [upd_lt hl]
      simp only [bufB, List.mem_cons] at hz
      rcases hz with rfl | rfl | hz
      · exact (h.rs.cb _ (by simp [bufB])).2
      · exact (h.rs.cb _ (by simp [bufB])).2
      · rcases e4 z hz with hq | hq
        · exact (h.rs.cb _ (by simp [bufB, hq])).2
        · omega
    · rw [upd_ge (by omega)]
  exact ⟨M', _, { B with q := q', qc := qc' }, e1, ⟨cells_ext h.hd e (by rw [h.cw]; simp), by rw [e.col w h.hd.lt, h.cw], h.rs.buf hk e e2 hc⟩, e.mono (fun c hc => by rw [hc]), rfl, rfl⟩
theorem pgather {k N : Nat} {P : WP} {tp : Option Addr} {w : Nat} (hk : k ≠ 0) : ∀ (l : List Sp) (ρ : Cl) (M : AMem) (B : PB) (σ : WS), σ.pl = l → IsP ρ k N P tp M w B σ → (∀ x ∈ l, SpOk P x) →
    ∃ M' ρ' B', P39_4 LL (some ⟨w, 0, none⟩) M = some (.bool (putAll P.room l σ.es).1.isEmpty, M') ∧ IsP ρ' k N P tp M' w B' { σ with pl := (putAll P.room l σ.es).1, es := (putAll P.room l σ.es).2 } ∧ Ext (Mine k) ρ M ρ' M'
  | [], ρ, M, B, σ, hl, h, _ => by
    obtain ⟨⟨l0, l1, l2, l3, l4, l5, l6, l7, l8⟩, l9, l12, l13⟩ := h.at
    rw [P39_4_eq LL L_loop]
    simp only [Nat.zero_add]
    rw [bLS l6, ifDn (by simp [hl]), P39_21_eq]
    refine ⟨M, ρ, B, rfl, ?_, .refl _ _ _⟩
    have : { σ with pl := (putAll P.room [] σ.es).1, es := (putAll P.room [] σ.es).2 } = σ := by
      cases σ; simp only at hl; simp [putAll, hl]
    rw [this]; exact h
  | x :: l, ρ, M, B, σ, hl, h, hx => by
    obtain ⟨⟨l0, l1, l2, l3, l4, l5, l6, l7, l8⟩, l9, l12, l13⟩ := h.at
    have hpd := h.rs.pd
    rw [hl] at hpd
    obtain ⟨b, o, ep, hb, hr⟩ := hpd.head
    have r0 : M.ld b o = _ := hr 0 _ rfl (by decide)
    have r1 := hr 1 _ rfl (by decide)
    have r2 := hr 2 _ rfl (by decide)
    have r3 := hr 3 _ rfl (by decide)
    rw [ep, hl] at l6
    rw [P39_4_eq LL L_loop]
    simp only [Nat.zero_add]
    have hg : (0 : Int) ≤ 0 ∧ (0 : Int) < Int.ofNat (x :: l).length := by rw [ofN, List.length_cons]; omega
    rw [bLS l6, ifD (by simp only [ofN, List.length_cons]; omega), bLP l7, bLS l6]
    simp only [↓if_pos hg]
    obtain ⟨M1, ρ1, B1, e1, e2, e3, e4, e5⟩ := pput hk h (hx x (by simp))
    rw [bLI r0, bLI r1, bLI r2, bLI r3, bX e1, bB]
    cases hp : putE P.room x.px x.r x.g x.b σ.es with
    | none =>
      rw [hp] at e2
      refine ⟨M1, ρ1, B1, ?_, ?_, e3⟩
      · simp [putAll, hp]
      · have : { σ with es := (none : Option (List En)).getD σ.es } = { σ with pl := (putAll P.room (x :: l) σ.es).1, es := (putAll P.room (x :: l) σ.es).2 } := by
          cases σ; simp only at hl hp; simp [putAll, hp, hl]
        rw [← this]; exact e2
    | some es' =>
      rw [hp] at e2
      simp only [Option.getD_some] at e2
      rw [show (!(some es').isSome) = false from rfl, ifF]
      have l6' := e2.at.1.2.2.2.2.2.2.1
      simp only at l6'
      rw [e4, e5, ep, hl] at l6'
      have hg1 : (0 : Int) ≤ 1 ∧ (1 : Int) ≤ Int.ofNat (x :: l).length ∧ Int.ofNat (x :: l).length ≤ Int.ofNat (x :: l).length := by rw [ofN, List.length_cons]; omega
      have ht : Int.toNat (Int.ofNat (x :: l).length - 1) = l.length := by rw [ofN, List.length_cons]; omega
      rw [bLS l6']
      simp only [↓if_pos hg1, Option.map_some, ht]
      obtain ⟨M2, w1, w2, w3, w4⟩ := e2.hd.wr (o := 6) (vs := [.slice (some ⟨b, o + 4, none⟩) l.length (if B.pc = 4 then 4 else 0)]) (by rw [encW_length]; exact (by decide : 6 + 1 ≤ 14))
      have x2 : Ext (fun c => c = (k, 0)) ρ1 M1 ρ1 M2 := Ext.of w3 (fun z hz _ => by simp only [List.mem_singleton] at hz; subst hz; exact e2.cw)
      have k0 : ∀ r, r ≠ 0 → ¬ (k, r) = (k, 0) := fun r hr h => hr (congrArg Prod.snd h)
      have r2 := e2.rs.ext x2 k0 (fun h => hk (congrArg Prod.fst h).symm)
      have hp2 := hpd.tail
      rw [ep, Option.map_some] at hp2
      have hbN : b < N := h.rs.cp (by rw [hl]; simp) b (by rw [ep]; simp)
      have hv : View encS 4 M2 (some ⟨b, o + 4, none⟩) l := by
        obtain ⟨S, t, hS⟩ := (e3.trans (x2.mono (fun c hc => by rw [hc]))).same
        refine hp2.same t (fun z hz => ?_)
        simp only [blk_some, List.mem_singleton] at hz
        subst hz
        exact hS _ hb (by rw [h.rs.c0 _ hbN]; exact fun h => hk h.symm)
      have hI : IsP ρ1 k N P tp M2 w { B1 with pp := some ⟨b, o + 4, none⟩, pc := if B.pc = 4 then 4 else 0 } { σ with es := es', pl := l } :=
        ⟨w2, e2.cw, r2.bf, r2.cb, hv, fun _ z hz => by simp only [blk_some, List.mem_singleton] at hz; subst hz; exact hbN, r2.kv, r2.ck, r2.fl, r2.cl, r2.lt, r2.c0⟩
      obtain ⟨M3, ρ3, B3, q1, q2, q3⟩ := pgather hk l ρ1 M2 _ _ rfl hI (fun y hy => hx y (by simp [hy]))
      refine ⟨M3, ρ3, B3, ?_, ?_, (e3.trans (x2.mono (fun c hc => by rw [hc]))).trans q3⟩
      · rw [bX w1, q1]
        simp [putAll, hp]
      · simp only [putAll, hp]
        exact q2
theorem pgath {ρ : Cl} {k N : Nat} {P : WP} {tp : Option Addr} {M : AMem} {w : Nat} {B : PB} {σ : WS} (hk : k ≠ 0) (h : IsP ρ k N P tp M w B σ) (hx : ∀ x ∈ σ.pl, SpOk P x) :
    ∃ M' ρ' B', LL.call 39 [pt w] M = some (.bool (putAll P.room σ.pl σ.es).1.isEmpty, M') ∧ IsP ρ' k N P tp M' w B' { σ with pl := (putAll P.room σ.pl σ.es).1, es := (putAll P.room σ.pl σ.es).2 } ∧ Ext (Mine k) ρ M ρ' M' := by
  rw [L_call39, E39]
  exact pgather hk σ.pl ρ M B σ rfl h hx
theorem k0ne {k r : Nat} (hr : r ≠ 0) : ¬ (fun c : Nat × Nat => c = (k, 0)) (k, r) := fun h => hr (congrArg Prod.snd h)
theorem z0ne {k r : Nat} (hk : k ≠ 0) : ¬ (fun c : Nat × Nat => c = (k, r)) (0, 0) := fun h => hk (congrArg Prod.fst h).symm
theorem mine_of {k r : Nat} : ∀ c : Nat × Nat, c = (k, r) → Mine k c := fun c hc => by rw [hc]
theorem flok_of {p s room k0 : Int} {es : List En} {M : AMem} {b mp : Nat} {q : Option Addr} {qc : Nat} (h : IsBuf M b mp q qc p s room es) (hk : 0 ≤ k0 ∧ k0 < s) : FlOk p s k0 (es.filter (inS s k0)) := by
  have := h.rm
  refine ⟨⟨h.rt, hk⟩, ?_, fun e he => ?_⟩
  · have := List.length_filter_le (inS s k0) es; omega
  · obtain ⟨h1, h2⟩ := List.mem_filter.1 he
    have := h.px e h1
    unfold inS at h2
    exact ⟨this.1, this.2, of_decide_eq_true h2⟩
theorem IsP.put {ρ : Cl} {k N : Nat} {P : WP} {tp : Option Addr} {M : AMem} {w : Nat} {B : PB} {σ : WS} (h : IsP ρ k N P tp M w B σ) (hk : k ≠ 0) (j : Nat) (vs : List Value) (hj : j + vs.length ≤ 14) :
    ∃ M', M.wr w j vs = some M' ∧ Cells M' w (wrL (encW P tp B σ) j vs) ∧ Ext (fun c => c = (k, 0)) ρ M ρ M' ∧ RsP ρ k N P M' B σ ∧ M'.length = M.length := by
  obtain ⟨M', w1, w2, w3, w4⟩ := h.hd.wr (o := j) (vs := vs) (by rw [encW_length]; exact hj)
  have x2 : Ext (fun c => c = (k, 0)) ρ M ρ M' := Ext.of w3 (fun z hz _ => by simp only [List.mem_singleton] at hz; subst hz; exact h.cw)
  exact ⟨M', w1, w2, x2, h.rs.ext x2 (fun r hr => k0ne hr) (z0ne hk), w4⟩
theorem pbegin {ρ : Cl} {k N : Nat} {P : WP} {tp : Option Addr} {M : AMem} {w : Nat} {B : PB} {σ : WS} (hk : k ≠ 0) (h : IsP ρ k N P tp M w B σ) {k0 : Int} {kr : List Int} (hks : σ.ks = k0 :: kr) (hh : σ.has = false) (hk0 : 0 ≤ k0 ∧ k0 < P.s) :
    ∃ M' ρ' B', LL.call 38 [pt w] M = some (.tuple #[], M') ∧ IsP ρ' k N P tp M' w B' (beginW P σ) ∧ Ext (Mine k) ρ M ρ' M' := by
  rw [L_call38, E38]
  obtain ⟨⟨l0, l1, l2, l3, l4, l5, l6, l7, l8⟩, l9, l12, l13⟩ := h.at
  have hkv := h.rs.kv
  rw [hks] at hkv l8
  obtain ⟨kb, ko, ekp, hkb, hr⟩ := hkv.head
  have r0 : M.ld kb ko = _ := hr 0 _ rfl (by decide)
  have hkt := hkv.tail
  rw [ekp] at l8 hkt
  rw [Option.map_some] at hkt
  have hg : (0 : Int) ≤ 0 ∧ (0 : Int) < Int.ofNat (k0 :: kr).length := by simp only [ofN, List.length_cons]; omega
  have hg1 : (0 : Int) ≤ 1 ∧ (1 : Int) ≤ Int.ofNat (k0 :: kr).length ∧ Int.ofNat (k0 :: kr).length ≤ Int.ofNat (k0 :: kr).length := by simp only [ofN, List.length_cons]; omega
  have ht : Int.toNat (Int.ofNat (k0 :: kr).length - 1) = kr.length := by simp only [ofN, List.length_cons]; omega
  simp only [Nat.zero_add]
  rw [bLS l8]
  simp only [↓if_pos hg]
  rw [bLI r0, bLS l8]
  simp only [↓if_pos hg1, Option.map_some, ht]
  obtain ⟨M1, w1, w2, w3, w4, w5⟩ := h.put hk 8 [.slice (some ⟨kb, ko + 1, none⟩) kr.length (if B.kc = 1 then 1 else 0)] (by show 8 + 1 ≤ 14; decide)
  have hck : Col M ρ (blk (some (⟨kb, ko + 1, none⟩ : Addr))) (k, 2) := by have := h.rs.ck; rw [ekp] at this; exact this
  have hI1 : IsP ρ k N P tp M1 w { B with kp := some ⟨kb, ko + 1, none⟩, kc := if B.kc = 1 then 1 else 0 } { σ with ks := kr } := by
    obtain ⟨S, t, hS⟩ := w3.same
    exact ⟨w2, h.cw, w4.bf, w4.cb, w4.pd, w4.cp, hkt.same t (Ext.free (K := fun c => c = (k, 0)) hck hS (k0ne (by decide))), hck.ext w3, w4.fl, w4.cl, w4.lt, w4.c0⟩
  rw [bX w1, bLP hI1.at.1.2.2.2.2.2.2.2.1]
  obtain ⟨M2, o, oc, r, rc, t1, t2, t3, t4, t5, t6⟩ := take_spec k0 hI1.rs.bf
  simp only at t1 t2 t3 t4 t5 t6
  rw [bX t1, bS]
  have x2 : Ext (fun c => c = (k, 1)) ρ M1 (upd ρ M1.length fun z => if z ∈ blk o then (k, 4) else (k, 1)) M2 := Ext.upd t4 (fun z hz _ => by
    simp only [List.mem_cons, List.not_mem_nil, or_false] at hz
    rcases hz with rfl | rfl
    · exact (hI1.rs.cb _ (by simp [bufB])).2
    · exact (hI1.rs.cb _ (by simp [bufB])).2) _
  have hb1 := hI1.rs.cb
  generalize hρ2 : (upd ρ M1.length fun z => if z ∈ blk o then (k, 4) else (k, 1)) = ρ2 at x2
  have hc2 : Col M2 ρ2 (bufB B.b B.mp r) (k, 1) := fun z hz => by
    refine ⟨t2.lt z hz, ?_⟩
    simp only [bufB, List.mem_cons] at hz
    rcases hz with rfl | rfl | hz
    · rw [x2.col _ (hb1 _ (by simp [bufB])).1]; exact (hb1 _ (by simp [bufB])).2
    · rw [x2.col _ (hb1 _ (by simp [bufB])).1]; exact (hb1 _ (by simp [bufB])).2
    · rw [← hρ2, upd_ge (t6 z hz), if_neg (fun ho => (t5 z ho).2 hz)]
  have ho2 : Col M2 ρ2 (blk o) (k, 4) := fun z hz => ⟨t3.lt z hz, by rw [← hρ2, upd_ge (t5 z hz).1, if_pos hz]⟩
  have rs2 := hI1.rs.buf hk x2 t2 hc2
  have hd2 := cells_ext hI1.hd x2 (by rw [hI1.cw]; simp)
  have cw2 : ρ2 w = (k, 0) := by rw [x2.col w hI1.hd.lt]; exact hI1.cw
  have y0 : M2.ld w 0 = some (.int .i64 P.p) := hd2.ld 0
  have y1 : M2.ld w 1 = some (.int .i64 P.s) := hd2.ld 1
  have hrd : RdL M2 encE o (σ.es.filter (inS P.s k0)).length (σ.es.filter (inS P.s k0)) := ⟨rfl, fun h0 => let ⟨a, e, c⟩ := t3.pos h0; ⟨a, e, c.rd⟩⟩
  have hok := flok_of h.rs.bf hk0
  obtain ⟨M3, f, fo, fc, n1, n2, n3, n4, n5⟩ := (fnew_spec (p := P.p) (s := P.s) (st := k0) (qc := oc) hrd (by have := hok.2.1; omega)).1 hok
  rw [bLI y0, bLI y1, bX n1, bP]
  have x3 : Ext (fun _ => False) ρ2 M2 (upd ρ2 M2.length fun _ => (k, 3)) M3 := Ext.upd n3 (fun z hz => by simp at hz) _
  generalize hρ3 : (upd ρ2 M2.length fun _ => (k, 3)) = ρ3 at x3
  have hfl : ∀ z ∈ f :: blk fo, z < M3.length := n2.lt (by simp [flNew, flAdds])
  have hc3 : Col M3 ρ3 (f :: blk fo) (k, 3) := fun z hz => ⟨hfl z hz, by
    have hz' : M2.length ≤ z := by
      rcases List.mem_cons.1 hz with rfl | hz
      · exact n4
      · exact n5 z hz
    rw [← hρ3, upd_ge hz']⟩
  have rs3 := rs2.ext x3 (fun _ _ h => h) (fun h => h)
  have hd3 := cells_ext hd2 x3 (fun h => h)
  have cw3 : ρ3 w = (k, 0) := by rw [x3.col w hd2.lt]; exact cw2
  have hI3 : IsP ρ3 k N P tp M3 w { B with kp := some ⟨kb, ko + 1, none⟩, kc := if B.kc = 1 then 1 else 0, q := r, qc := rc } { σ with ks := kr, es := σ.es.filter (outS P.s k0) } := ⟨hd3, cw3, rs3⟩
  obtain ⟨M4, v1, v2, v3, v4, v5⟩ := hI3.put hk 9 [pt f, .int .i64 k0, .slice o (σ.es.filter (inS P.s k0)).length oc] (by show 9 + 3 ≤ 14; decide)
  rw [bX v1]
  obtain ⟨S4, u4, hS4⟩ := v3.same
  obtain ⟨S3, u3, hS3⟩ := x3.same
  have f4 := Ext.free (K := fun c => c = (k, 0)) hc3 hS4 (k0ne (by decide))
  have ho3 := ho2.ext x3
  refine ⟨M4, ρ3, { B with kp := some ⟨kb, ko + 1, none⟩, kc := if B.kc = 1 then 1 else 0, q := r, qc := rc, f := f, fp := fo, fc := fc, ep := o, ec := oc }, rfl, ⟨?_, cw3, ?_⟩, ((w3.mono mine_of).trans (x2.mono mine_of)).trans ((x3.mono (fun _ h => h.elim)).trans (v3.mono mine_of))⟩
  · have e : wrL (encW P tp { B with kp := some ⟨kb, ko + 1, none⟩, kc := if B.kc = 1 then 1 else 0, q := r, qc := rc } { σ with ks := kr, es := σ.es.filter (outS P.s k0) }) 9 [pt f, .int .i64 k0, .slice o (σ.es.filter (inS P.s k0)).length oc] =
        encW P tp { B with kp := some ⟨kb, ko + 1, none⟩, kc := if B.kc = 1 then 1 else 0, q := r, qc := rc, f := f, fp := fo, fc := fc, ep := o, ec := oc } (beginW P σ) := by
      unfold encW jobC clC beginW
      simp only [hh, hks, Bool.false_eq_true, if_false, if_true, List.headD_cons, List.tail_cons]
      rfl
    rw [← e]; exact v2
  · have hbe : beginW P σ = { σ with has := true, st := k0, ks := kr, en := σ.es.filter (inS P.s k0), es := σ.es.filter (outS P.s k0), fs := flNew P.p P.s k0 (σ.es.filter (inS P.s k0)) } := by
      unfold beginW; rw [hks]; rfl
    rw [hbe]
    exact ⟨v4.bf, v4.cb, v4.pd, v4.cp, v4.kv, v4.ck, fun _ => ⟨n2.same u4 (f4 _ (by simp)) (fun b hb => f4 b (by simp [hb])), hc3.ext v3, (hrd.same u3 (Ext.free (K := fun _ => False) ho2 hS3 (fun h => h))).same u4 (Ext.free (K := fun c => c = (k, 0)) ho3 hS4 (k0ne (by decide))), ho3.ext v3⟩, v4.cl, v4.lt, v4.c0⟩
theorem IsP.st {ρ : Cl} {k N : Nat} {P : WP} {tp : Option Addr} {M M' : AMem} {w : Nat} {B : PB} {σ : WS} (h : IsP ρ k N P tp M w B σ) (t : Same M M' []) : IsP ρ k N P tp M' w B σ :=
  h.ext (K := fun _ => False) (Ext.of t (fun z hz => by simp at hz)) (fun _ h => h) (fun h => h)
theorem ev_tell {M : AMem} {x : Nat} {cs : List Value} (h : Cells M x cs) (hl : cs.length = 5) (a b c : Int) (d e : Bool) :
    ∃ M', AMem.wr M x 0 [.int .i64 a, .int .i64 b, .int .i64 c, .bool d, .bool e] = some M' ∧ Same M M' [x] ∧ M'.length = M.length ∧ Cells M' x [.int .i64 a, .int .i64 b, .int .i64 c, .bool d, .bool e] ∧
      (M'.ld x 0 = some (.int .i64 a) ∧ M'.ld x 1 = some (.int .i64 b) ∧ M'.ld x 2 = some (.int .i64 c) ∧ M'.ld x 3 = some (.bool d) ∧ M'.ld x 4 = some (.bool e)) := by
  obtain ⟨M', w1, w2, w3, w4⟩ := h.wr (o := 0) (vs := [.int .i64 a, .int .i64 b, .int .i64 c, .bool d, .bool e]) (by rw [hl]; exact (by decide : 0 + 5 ≤ 5))
  have e2 : wrL cs 0 [.int .i64 a, .int .i64 b, .int .i64 c, .bool d, .bool e] = [.int .i64 a, .int .i64 b, .int .i64 c, .bool d, .bool e] := by
    match cs, hl with
    | [_, _, _, _, _], _ => rfl
  rw [e2] at w2
  exact ⟨M', w1, w3, w4, w2, w2.ld 0, w2.ld 1, w2.ld 2, w2.ld 3, w2.ld 4⟩
theorem RsP.nojob {ρ : Cl} {k N : Nat} {P : WP} {M : AMem} {B : PB} {σ : WS} (h : RsP ρ k N P M B σ) : RsP ρ k N P M B { σ with has := false } :=
  ⟨h.bf, h.cb, h.pd, h.cp, h.kv, h.ck, fun h => by simp at h, h.cl, h.lt, h.c0⟩
theorem pf_end {M : AMem} {x4 x8 : Nat} {cs : List Value} {a b c : Int} {d e : Bool} (h4 : Cells M x4 cs) (hl : cs.length = 5) (h8 : Cells M x8 [.int .i64 a, .int .i64 b, .int .i64 c, .bool d, .bool e]) :
    ∃ M', P37_18 LL x4 x8 M = some (.agg #[.int .i64 a, .int .i64 b, .int .i64 c, .bool d, .bool e], M') ∧ Same M M' [x4] := by
  rw [P37_18_eq]
  have y0 : M.ld x8 0 = some (.int .i64 a) := h8.ld 0
  have y1 : M.ld x8 1 = some (.int .i64 b) := h8.ld 1
  have y2 : M.ld x8 2 = some (.int .i64 c) := h8.ld 2
  have y3 : M.ld x8 3 = some (.bool d) := h8.ld 3
  have y4 : M.ld x8 4 = some (.bool e) := h8.ld 4
  obtain ⟨M', w1, w2, _, _, z0, z1, z2, z3, z4⟩ := ev_tell h4 hl a b c d e
  rw [bLI y0, bLI y1, bLI y2, bLB y3, bLB y4, bX w1, bLI z0, bLI z1, bLI z2, bLB z3, bLB z4]
  exact ⟨M', rfl, w2⟩
theorem nx_mono (L : List Int) (s : FS) : s.nx ≤ (fS L s).nx ∧ s.lost ≤ (fS L s).lost ∧ (fS L s).lost ≤ s.lost + 1 ∧ (fS L s).adds = s.adds := by
  unfold fS
  split
  · exact ⟨Nat.le_refl _, Nat.le_refl _, by omega, rfl⟩
  · split
    · split
      · exact ⟨by simp, Nat.le_refl _, by simp, rfl⟩
      · exact ⟨Nat.le_refl _, by simp, by simp, rfl⟩
    · exact ⟨Nat.le_refl _, Nat.le_refl _, by simp, rfl⟩
abbrev Ours (k : Nat) : Nat × Nat → Prop := fun c => c.1 = k ∨ c = (1, 0)
theorem pflushes {ρ : Cl} {k N : Nat} {P : WP} {tp : Option Addr} {M : AMem} {w : Nat} {B : PB} {σ : WS} {mb ma st wi : Nat} {L : List Int} (hk : k ≠ 0 ∧ k ≠ 1) (h : IsP ρ k N P tp M w B σ) (hh : σ.has = true) (hm : IsMem M mb ma L st wi) (hc : ρ mb = (1, 0) ∧ ρ ma = (1, 0))
    (hst : st < 1000000000) (hwi : wi < 1000000000) (hlo : σ.fs.lost ≤ σ.lost ∧ σ.lost < 1000000000) (hov : fOver L σ.fs = false) :
    ∃ M' ρ' wi', LL.call 37 [pt w, pt mb] M = some (.agg (encV (flushW L σ).ev).toArray, M') ∧ IsP ρ' k N P tp M' w B (flushW L σ).σ ∧ IsMem M' mb ma (flushW L σ).L (st + (flushW L σ).dt) wi' ∧ wi' ≤ wi + 1 ∧ Ext (Ours k) ρ M ρ' M' := by
  rw [L_call37, E37]
  have s0 := same_app M [AObj.cells ev0 ⟨false, 0⟩]
  have g0 := cells_new M ev0 0
  have n0 : (M ++ [AObj.cells ev0 ⟨false, 0⟩]).length = M.length + 1 := by simp
  generalize M ++ [AObj.cells ev0 ⟨false, 0⟩] = M0 at s0 g0 n0 ⊢
  have e0 : Ext (fun _ => False) ρ M (upd ρ M.length fun _ => (1, 9)) M0 := Ext.upd s0 (fun z hz => by simp at hz) _
  have hwl := h.hd.lt
  have mlt : mb < M.length ∧ ma < M.length := ⟨hm.hd.lt, hm.cs.lt⟩
  have hfM : B.f < M.length := (h.rs.fl hh).1.hd.lt
  have own : ∀ z ∈ [B.f, mb, ma, w], z < M.length → Ours k (ρ z) := fun z hz _ => by
    simp only [List.mem_cons, List.not_mem_nil, or_false] at hz
    rcases hz with rfl | rfl | rfl | rfl
    · exact .inl (by rw [((h.rs.fl hh).2.1 _ (by simp)).2])
    · exact .inr hc.1
    · exact .inr hc.2
    · exact .inl (by rw [h.cw])
  have h0 := h.ext e0 (fun _ h => h) (fun h => h)
  have hx9 : (upd ρ M.length fun _ => (1, 9)) M.length = (1, 9) := upd_ge (Nat.le_refl _)
  replace hc : (upd ρ M.length fun _ => (1, 9)) mb = (1, 0) ∧ (upd ρ M.length fun _ => (1, 9)) ma = (1, 0) := ⟨by rw [upd_lt mlt.1]; exact hc.1, by rw [upd_lt mlt.2]; exact hc.2⟩
  have col0 := e0.col
  generalize (upd ρ M.length fun _ => (1, 9)) = ρ' at h0 hx9 hc col0
  obtain ⟨ja, jb, jc, je, ha, hj1, _⟩ := job_get B σ
  obtain ⟨rfl, rfl⟩ := hj1 hh
  rw [hh, if_pos rfl] at ha
  subst ha
  have l9 : M0.ld w 9 = some (pt B.f) := by rw [h0.hd.ld]; unfold encW; rw [je]; rfl
  have l10 : M0.ld w 10 = some (.int .i64 σ.st) := by rw [h0.hd.ld]; unfold encW; rw [je]; rfl
  have l11 : M0.ld w 11 = some (.slice B.ep σ.en.length B.ec) := by rw [h0.hd.ld]; unfold encW; rw [je]; rfl
  have s1 := same_app M0 [AObj.cells [.pointer none, .int .i64 0, .slice none 0 0] ⟨false, 0⟩]
  have g1 := cells_new M0 [.pointer none, .int .i64 0, .slice none 0 0] 0
  have n1 : (M0 ++ [AObj.cells [.pointer none, .int .i64 0, .slice none 0 0] ⟨false, 0⟩]).length = M0.length + 1 := by simp
  simp only [Nat.zero_add]
  generalize M0 ++ [AObj.cells [.pointer none, .int .i64 0, .slice none 0 0] ⟨false, 0⟩] = M1 at s1 g1 n1 ⊢
  obtain ⟨M5, a1, a2, a3, a4⟩ := g1.wr (o := 0) (vs := [pt B.f, .int .i64 σ.st, .slice B.ep σ.en.length B.ec]) (by exact (by decide : 0 + 3 ≤ 3))
  have a2' : Cells M5 M0.length [pt B.f, .int .i64 σ.st, .slice B.ep σ.en.length B.ec] := a2
  have t5 : Same M M5 [] := ((s0.trans s1).trans a3).mono' (fun b hb hl => by simp at hb; omega)
  have t05 : Same M0 M5 [] := (s1.trans a3).mono' (fun b hb hl => by simp at hb; omega)
  have h5 := h0.st t05
  obtain ⟨f1, f2, f3, f4⟩ := h5.rs.fl hh
  have y0 : M5.ld M0.length 0 = some (pt B.f) := a2'.ld 0
  have hfl := f1.lt
  have hm5 := hm.same t5 (by simp) (by simp)
  have hne : ∀ z ∈ B.f :: blk B.fp, z ≠ mb ∧ z ≠ ma := fun z hz => by
    have := (f2 z hz).2
    refine ⟨fun e => ?_, fun e => ?_⟩
    · rw [e, hc.1] at this; exact hk.2 (congrArg Prod.fst this).symm
    · rw [e, hc.2] at this; exact hk.2 (congrArg Prod.fst this).symm
  obtain ⟨M13, b1, b2, b3, b4⟩ := fl_step f1 hm5 (by omega) (by omega) (by omega) ⟨(hne _ (by simp)).1, (hne _ (by simp)).2, fun x hx => hne x (by simp [hx])⟩
  have hck4 : ∀ x, chkOk [(4, 2)] [(4, x)] [(2, (M5, M5))] = true := fun x => by simp [chkOk, List.lookup]
  rw [bLP l9, bLI l10, bLS l11, bX a1, bLP y0, bX (begun_spec' f1), bB, bLP y0, bX (lost_spec f1), bI]
  simp only [hck4, if_true]
  rw [bLP y0, bX b1, bB]
  have x13 : Ext (fun c => c = (k, 3) ∨ c = (1, 0)) ρ' M5 ρ' M13 := Ext.of b4 (fun z hz _ => by
    simp only [List.mem_cons, List.not_mem_nil, or_false] at hz
    rcases hz with rfl | rfl | rfl
    · exact .inl (f2 _ (by simp)).2
    · exact .inr hc.1
    · exact .inr hc.2)
  obtain ⟨S, u, hS⟩ := x13.same
  have nk : ∀ r, r ≠ 3 → ¬ (fun c : Nat × Nat => c = (k, 3) ∨ c = (1, 0)) (k, r) := fun r hr h => by
    rcases h with h | h
    · exact hr (congrArg Prod.snd h)
    · exact hk.2 (congrArg Prod.fst h)
  have nz : ¬ (fun c : Nat × Nat => c = (k, 3) ∨ c = (1, 0)) (0, 0) := fun h => by
    rcases h with h | h
    · exact hk.1 (congrArg Prod.fst h).symm
    · cases h
  have hd13 := cells_ext h5.hd x13 (by rw [h5.cw]; exact nk 0 (by decide))
  have r13 : RsP ρ' k N P M13 B { σ with fs := fS L σ.fs } :=
    ⟨h5.rs.bf.same u (Ext.free (K := fun c : Nat × Nat => c = (k, 3) ∨ c = (1, 0)) h5.rs.cb hS (nk 1 (by decide))), h5.rs.cb.ext x13, view_arg h5.rs.pd h5.rs.cp h5.rs.lt h5.rs.c0 x13 nz, h5.rs.cp,
      h5.rs.kv.same u (Ext.free (K := fun c : Nat × Nat => c = (k, 3) ∨ c = (1, 0)) h5.rs.ck hS (nk 2 (by decide))), h5.rs.ck.ext x13, fun _ => ⟨b2, f2.ext x13, f3.same u (Ext.free (K := fun c : Nat × Nat => c = (k, 3) ∨ c = (1, 0)) f4 hS (nk 4 (by decide))), f4.ext x13⟩,
      fun ho => ⟨cells_ext (h5.rs.cl ho).1 x13 (by rw [(h5.rs.cl ho).2]; exact nk 5 (by decide)), (h5.rs.cl ho).2⟩, Nat.le_trans h5.rs.lt x13.le, h5.rs.c0⟩
  have hI13 : IsP ρ' k N P tp M13 w B { σ with fs := fS L σ.fs } := ⟨hd13, h5.cw, r13⟩
  have l13 := hI13.at.2.2.2
  have nM0 : M0.length ∉ [B.f, mb, ma] := by simp; omega
  have nM : M.length ∉ [B.f, mb, ma] := by simp; omega
  have a13 := a2'.same b4 nM0
  have y13 : M13.ld M0.length 0 = some (pt B.f) := a13.ld 0
  obtain ⟨m1, m2, m3, m4⟩ := nx_mono L σ.fs
  have e1 : IntKind.wrap .i64 (((fS L σ.fs).lost : Int) - (σ.fs.lost : Int)) = ((fS L σ.fs).lost : Int) - (σ.fs.lost : Int) := w64 (by omega)
  have e2 : IntKind.wrap .i64 ((σ.lost : Int) + (((fS L σ.fs).lost : Int) - (σ.fs.lost : Int))) = ((σ.lost + (fS L σ.fs).lost - σ.fs.lost : Nat) : Int) := by rw [w64 (by omega)]; omega
  obtain ⟨M21, c1, c2, c3, c4, c5⟩ := hI13.put hk.1 13 [.int .i64 ((σ.lost + (fS L σ.fs).lost - σ.fs.lost : Nat) : Int)] (by show 13 + 1 ≤ 14; decide)
  have hck3 : ∀ x, chkOk [(3, 6)] [(3, x)] [(6, (M13, M13))] = true := fun x => by simp [chkOk, List.lookup]
  rw [bLI l13, bLP y13, bX (lost_spec b2), bI, e1, e2, bX c1]
  simp only [hck3, if_true]
  have h21 : IsP ρ' k N P tp M21 w B { σ with fs := fS L σ.fs, lost := σ.lost + (fS L σ.fs).lost - σ.fs.lost } := by
    refine ⟨?_, h0.cw, c4.bf, c4.cb, c4.pd, c4.cp, c4.kv, c4.ck, c4.fl, c4.cl, c4.lt, c4.c0⟩
    have : wrL (encW P tp B { σ with fs := fS L σ.fs }) 13 [.int .i64 ((σ.lost + (fS L σ.fs).lost - σ.fs.lost : Nat) : Int)] = encW P tp B { σ with fs := fS L σ.fs, lost := σ.lost + (fS L σ.fs).lost - σ.fs.lost } := by
      unfold encW
      have e1 : jobC B { σ with fs := fS L σ.fs } = jobC B σ := rfl
      have e2 : jobC B { σ with fs := fS L σ.fs, lost := σ.lost + (fS L σ.fs).lost - σ.fs.lost } = jobC B σ := rfl
      rw [e1, e2, je]; rfl
    rw [← this]; exact c2
  have m21 : IsMem M21 mb ma (fL L σ.fs) (st + fT L σ.fs) (wi + fW L σ.fs) := by
    obtain ⟨S', u', hS'⟩ := c3.same
    have l1 := b3.hd.lt
    have l2 := b3.cs.lt
    refine b3.same u' (hS' _ l1 ?_) (hS' _ l2 ?_)
    · rw [hc.1]; exact fun h => hk.2 (congrArg Prod.fst h).symm
    · rw [hc.2]; exact fun h => hk.2 (congrArg Prod.fst h).symm
  have n13 := b4.le
  have w13 : Same M13 M21 [w] := by
    obtain ⟨M', w1, w2, w3, w4⟩ := hI13.hd.wr (o := 13) (vs := [.int .i64 ((σ.lost + (fS L σ.fs).lost - σ.fs.lost : Nat) : Int)]) (by rw [encW_length]; exact (by decide : 13 + 1 ≤ 14))
    rw [w1] at c1; cases c1; exact w3
  have n0w : M0.length ∉ [w] := by simp; omega
  have nMw : M.length ∉ [w] := by simp; omega
  have a21 := a13.same w13 n0w
  have g21 := ((((g0.same s1 (by simp)).same a3 (by simp; omega)).same b4 nM).same w13 nMw)
  have s2 := same_app M21 [AObj.cells ev0 ⟨false, 0⟩]
  have g2 := cells_new M21 ev0 0
  generalize M21 ++ [AObj.cells ev0 ⟨false, 0⟩] = M22 at s2 g2 ⊢
  have h22 := h21.st s2
  have m22 := m21.same s2 (by simp) (by simp)
  have a22 := a21.same s2 (by simp)
  have z0 : M22.ld M0.length 0 = some (pt B.f) := a22.ld 0
  have z1 : M22.ld M0.length 1 = some (.int .i64 σ.st) := a22.ld 1
  have fl22 := (h22.rs.fl hh).1
  have t22 : Same M M22 [B.f, mb, ma, w] := (((t5.trans b4).trans w13).trans s2).mono (fun b hb => by simp only [List.mem_append, List.mem_cons, List.not_mem_nil, or_false, false_or] at hb; rcases hb with (hb | hb | hb) | hb <;> simp [hb])
  have hT : fT L σ.fs = 1 := by simp [fT, hov]
  have hWle : fW L σ.fs ≤ 1 := by unfold fW; split <;> omega
  have le21 : M1.length ≤ M21.length := by have := w13.le; omega
  have le22 := s2.le
  have hck7 : ∀ x y, chkOk [(1, 7), (1, 11), (10, 7), (13, 7), (13, 11)] [(13, x), (10, y), (1, y)] [(11, (M22, M22)), (7, (M22, M22))] = true := fun x y => by simp [chkOk, List.lookup]
  have fin : ∀ (d : Bool) (M29 : AMem), d = (decide (σ.fs.nx = 0) && decide (0 < (fS L σ.fs).nx)) → Same M22 M29 [M21.length] → Cells M29 M21.length [.int .i64 3, .int .i64 0, .int .i64 σ.st, .bool d, .bool (decide ((fS L σ.fs).adds.length = (fS L σ.fs).nx))] →
      ∃ M' wi', (if decide ((fS L σ.fs).adds.length = (fS L σ.fs).nx) = true then Option.bind (AMem.wr M29 w 9 [.pointer none, .int .i64 0, .slice none 0 0]) fun M32 => P37_18 LL M.length M21.length M32 else P37_18 LL M.length M21.length M29) = some (.agg (encV (flushW L σ).ev).toArray, M') ∧
        IsP ρ' k N P tp M' w B (flushW L σ).σ ∧ IsMem M' mb ma (flushW L σ).L (st + (flushW L σ).dt) wi' ∧ wi' ≤ wi + 1 ∧ Ext (Ours k) ρ M ρ' M' := fun d M29 hd u29 c29 => by
    have v29 : Same M21 M29 [] := (s2.trans u29).mono' (fun b hb hl => by simp at hb; omega)
    have h29 := h21.st v29
    have m29 := m21.same v29 (by simp) (by simp)
    have g29 := g21.same v29 (by simp)
    have t29 : Same M M29 [B.f, mb, ma, w] := (t22.trans u29).mono' (fun b hb hl => by
      simp only [List.mem_append, List.mem_singleton] at hb
      rcases hb with hb | hb
      · exact hb
      · omega)
    by_cases hen : (fS L σ.fs).adds.length = (fS L σ.fs).nx
    · rw [ifD hen]
      obtain ⟨M32, d1, d2, d3, d4, d5⟩ := h29.put hk.1 9 [.pointer none, .int .i64 0, .slice none 0 0] (by show 9 + 3 ≤ 14; decide)
      have w32 : Same M29 M32 [w] := by
        obtain ⟨M', w1, w2, w3, w4⟩ := h29.hd.wr (o := 9) (vs := [.pointer none, .int .i64 0, .slice none 0 0]) (by rw [encW_length]; exact (by decide : 9 + 3 ≤ 14))
        rw [w1] at d1; cases d1; exact w3
      have mw : mb ∉ [w] ∧ ma ∉ [w] := by
        refine ⟨fun e => ?_, fun e => ?_⟩
        · simp only [List.mem_singleton] at e
          have := h0.cw
          rw [← e, hc.1] at this; exact hk.2 (congrArg Prod.fst this).symm
        · simp only [List.mem_singleton] at e
          have := h0.cw
          rw [← e, hc.2] at this; exact hk.2 (congrArg Prod.fst this).symm
      have m32 := m29.same w32 mw.1 mw.2
      have c32 := c29.same w32 (by simp; omega)
      obtain ⟨M33, q1, q2⟩ := pf_end (g29.same w32 nMw) rfl c32
      rw [bX d1, q1]
      have hI : IsP ρ' k N P tp M32 w B (flushW L σ).σ := by
        refine ⟨?_, h0.cw, ?_⟩
        · have : wrL (encW P tp B { σ with fs := fS L σ.fs, lost := σ.lost + (fS L σ.fs).lost - σ.fs.lost }) 9 [.pointer none, .int .i64 0, .slice none 0 0] = encW P tp B (flushW L σ).σ := by
            unfold encW flushW jobC
            simp only [hh, endedF, hen, decide_true, Bool.not_true, if_true, Bool.false_eq_true, if_false]
            rfl
          rw [← this]; exact d2
        · have := d4.nojob
          unfold flushW
          simp only [endedF, hen, decide_true, Bool.not_true]
          exact this
      refine ⟨M33, wi + fW L σ.fs, by rw [hd]; rfl, hI.ext (K := fun c => c = (1, 9)) (Ext.of q2 (fun z hz _ => by simp only [List.mem_singleton] at hz; rw [hz]; exact hx9)) (fun r h => hk.2 (congrArg Prod.fst h)) (fun h => by cases h), ?_, ?_, ?_⟩
      · show IsMem M33 mb ma (fL L σ.fs) (st + 1) _
        rw [← hT]
        exact m32.same q2 (by simp; omega) (by simp; omega)
      · omega
      · have t33 : Same M M33 [B.f, mb, ma, w] := ((t29.trans w32).trans q2).mono' (fun b hb hl => by
          simp only [List.mem_append, List.mem_singleton] at hb
          rcases hb with (hb | hb) | hb
          · exact hb
          · simp [hb]
          · omega)
        exact ⟨t33.le, col0, fun z hz hn => t33.get z hz (fun hm => hn (own z hm hz))⟩
    · rw [ifDn hen]
      obtain ⟨M33, q1, q2⟩ := pf_end g29 rfl c29
      rw [q1]
      have hI : IsP ρ' k N P tp M29 w B (flushW L σ).σ := by
        have e : (flushW L σ).σ = { σ with fs := fS L σ.fs, lost := σ.lost + (fS L σ.fs).lost - σ.fs.lost } := by
          unfold flushW
          simp only [endedF, decide_eq_false hen, Bool.not_false]
          rw [← hh]
        rw [e]; exact h29
      refine ⟨M33, wi + fW L σ.fs, ?_, hI.ext (K := fun c => c = (1, 9)) (Ext.of q2 (fun z hz _ => by simp only [List.mem_singleton] at hz; rw [hz]; exact hx9)) (fun r h => hk.2 (congrArg Prod.fst h)) (fun h => by cases h), ?_, ?_, ?_⟩
      · rw [hd]; rfl
      · show IsMem M33 mb ma (fL L σ.fs) (st + 1) _
        rw [← hT]
        exact m29.same q2 (by simp; omega) (by simp; omega)
      · omega
      · have t33 : Same M M33 [B.f, mb, ma, w] := (t29.trans q2).mono' (fun b hb hl => by
          simp only [List.mem_append, List.mem_singleton] at hb
          rcases hb with hb | hb
          · exact hb
          · omega)
        exact ⟨t33.le, col0, fun z hz hn => t33.get z hz (fun hm => hn (own z hm hz))⟩
  rw [bLI z1]
  have hbeg : (decide (0 < σ.fs.nx)) = !decide (σ.fs.nx = 0) := by
    by_cases z : σ.fs.nx = 0
    · simp [z]
    · simp [z, Nat.pos_of_ne_zero z]
  rw [hbeg]
  cases hz : decide (σ.fs.nx = 0) with
  | true =>
    rw [show (!!true) = true from rfl, ifT, bLP z0, bX (begun_spec' fl22), bB, bLP z0, bX (done_spec fl22), bB]
    obtain ⟨M29, v1, v2, v3, v4, v5⟩ := ev_tell g2 rfl 3 0 σ.st (decide (0 < (fS L σ.fs).nx)) (decide ((fS L σ.fs).adds.length = (fS L σ.fs).nx))
    rw [bX v1]
    simp only [hck7, if_true]
    rw [bLB v5.2.2.2.2]
    obtain ⟨M', wi', r1, r2⟩ := fin _ M29 (by rw [hz]; rfl) v2 v4
    exact ⟨M', ρ', wi', r1, r2⟩
  | false =>
    rw [show (!!false) = false from rfl, ifF, bLP z0, bX (done_spec fl22), bB]
    obtain ⟨M29, v1, v2, v3, v4, v5⟩ := ev_tell g2 rfl 3 0 σ.st false (decide ((fS L σ.fs).adds.length = (fS L σ.fs).nx))
    rw [bX v1]
    simp only [hck7, if_true]
    rw [bLB v5.2.2.2.2]
    obtain ⟨M', wi', r1, r2⟩ := fin _ M29 (by rw [hz]; rfl) v2 v4
    exact ⟨M', ρ', wi', r1, r2⟩
structure Row where
  p : Option Addr
  l : List Sp
def encRow (r : Row) : List Value := [.slice r.p r.l.length 0]
theorem encRow_length (r : Row) : (encRow r).length = 1 := rfl
structure TbOk (N : Nat) (M : AMem) (tp : Option Addr) (tr : List Row) : Prop where
  rd : RdL M encRow tp tr.length tr
  rows : ∀ r ∈ tr, RdL M encS r.p r.l.length r.l
  lt : tr ≠ [] → ∀ b ∈ blk tp, b < N
  rlt : ∀ r ∈ tr, r.l ≠ [] → ∀ b ∈ blk r.p, b < N
theorem TbOk.same {N : Nat} {M M' : AMem} {tp : Option Addr} {tr : List Row} {S : List Nat} (h : TbOk N M tp tr) (t : Same M M' S) (hS : ∀ z ∈ S, N ≤ z) : TbOk N M' tp tr := by
  refine ⟨⟨rfl, fun h0 => ?_⟩, fun r hr => ⟨rfl, fun h0 => ?_⟩, h.lt, h.rlt⟩
  · obtain ⟨a, e, k⟩ := h.rd.2 h0
    refine ⟨a, e, k.same t (fun hm => ?_)⟩
    have := hS _ hm
    have := h.lt (List.length_pos_iff.1 h0) a (by rw [e]; simp)
    omega
  · obtain ⟨a, e, k⟩ := (h.rows r hr).2 h0
    refine ⟨a, e, k.same t (fun hm => ?_)⟩
    have := hS _ hm
    have := h.rlt r hr (List.length_pos_iff.1 h0) a (by rw [e]; simp)
    omega
theorem TbOk.ext {K : Nat × Nat → Prop} {ρ ρ' : Cl} {N : Nat} {M M' : AMem} {tp : Option Addr} {tr : List Row} (h : TbOk N M tp tr) (e : Ext K ρ M ρ' M') (h0 : ¬ K (0, 0)) (c0 : ∀ z, z < N → ρ z = (0, 0)) : TbOk N M' tp tr := by
  refine ⟨⟨rfl, fun hl => ?_⟩, fun r hr => ⟨rfl, fun hl => ?_⟩, h.lt, h.rlt⟩
  · obtain ⟨a, ea, k⟩ := h.rd.2 hl
    exact ⟨a, ea, rd_ext k e (by rw [c0 a (h.lt (List.length_pos_iff.1 hl) a (by rw [ea]; simp))]; exact h0)⟩
  · obtain ⟨a, ea, k⟩ := (h.rows r hr).2 hl
    exact ⟨a, ea, rd_ext k e (by rw [c0 a (h.rlt r hr (List.length_pos_iff.1 hl) a (by rw [ea]; simp))]; exact h0)⟩
theorem TbOk.ld {N : Nat} {M : AMem} {tp : Option Addr} {tr : List Row} (h : TbOk N M tp tr) {i : Nat} {r : Row} (hr : tr[i]? = some r) : ∃ z, tp = some ⟨z, 0, none⟩ ∧ M.ld z (i * 1) = some (.slice r.p r.l.length 0) := by
  obtain ⟨z, e, k⟩ := h.rd.2 (by have := (ges.1 hr).1; omega)
  refine ⟨z, e, ?_⟩
  have := flat_get encRow_length tr i 0 r hr (by omega)
  rw [Nat.add_zero] at this
  rw [k.ld, this]; rfl
theorem tmp_new {ρ : Cl} {M M0 : AMem} (s0 : Same M M0 []) : ∃ ρ', Ext (fun _ => False) ρ M ρ' M0 ∧ ρ' M.length = (1, 9) :=
  ⟨upd ρ M.length fun _ => (1, 9), Ext.upd s0 (fun z hz => by simp at hz) _, upd_ge (Nat.le_refl _)⟩
theorem ptraces {ρ : Cl} {k N : Nat} {P : WP} {tp : Option Addr} {tr : List Row} {M : AMem} {w : Nat} {B : PB} {σ : WS} (hk : k ≠ 0 ∧ k ≠ 1) (h : IsP ρ k N P tp M w B σ) (htb : TbOk N M tp tr) (hP : P.tb = tr.map Row.l) (hf : 0 ≤ σ.fr ∧ σ.fr < P.all) (ha : P.all ≤ 1048576) :
    ∃ M' ρ' B', LL.call 41 [pt w] M = some (.agg #[.int .i64 2, .int .i64 σ.fr, .int .i64 0, .bool false, .bool false], M') ∧ IsP ρ' k N P tp M' w B' { σ with pl := P.tb.getD σ.fr.toNat [], fr := σ.fr + 1 } ∧ Ext (Mine k) ρ M ρ' M' := by
  rw [L_call41, E41]
  have s0 := same_app M [AObj.cells ev0 ⟨false, 0⟩]
  have g0 := cells_new M ev0 0
  generalize M ++ [AObj.cells ev0 ⟨false, 0⟩] = M0 at s0 g0 ⊢
  obtain ⟨ρ', e0, hx9⟩ := tmp_new (ρ := ρ) s0
  have hwl := h.hd.lt
  have h0 := h.ext e0 (fun _ h => h) (fun h => h)
  have htl : P.tb.length = tr.length := by rw [hP]; simp
  have hall : P.all = (tr.length : Int) := by unfold WP.all; rw [htl]
  obtain ⟨r, hr⟩ : ∃ r, tr[σ.fr.toNat]? = some r := ⟨_, gee (by omega)⟩
  have htb0 := htb.same s0 (by simp)
  obtain ⟨z, etp, lz⟩ := htb0.ld hr
  have hrow : P.tb.getD σ.fr.toNat [] = r.l := by rw [hP, List.getD_eq_getElem?_getD, List.getElem?_map, hr]; rfl
  have hrm := List.mem_of_getElem? hr
  obtain ⟨⟨l0, l1, l2, l3, l4, l5, l6, l7, l8⟩, l9, l12, l13⟩ := h0.at
  rw [etp] at l3
  have hg : (0 : Int) ≤ σ.fr ∧ σ.fr < Int.ofNat P.tb.length := by rw [ofN, htl]; omega
  simp only [Nat.zero_add]
  rw [bLS l3, bLI l4]
  simp only [↓if_pos hg, Nat.zero_add]
  obtain ⟨M1, w1, w2, w3, w4, w5⟩ := h0.put hk.1 6 [.slice r.p r.l.length 0] (by show 6 + 1 ≤ 14; decide)
  rw [bLS lz, bX w1]
  obtain ⟨ja, jb, jc, je, -, -⟩ := job_get B σ
  have hI1 : IsP ρ' k N P tp M1 w { B with pp := r.p, pc := 0 } { σ with pl := r.l } := by
    refine ⟨w2, h0.cw, w4.bf, w4.cb, ?_, fun hne => htb.rlt r hrm hne, w4.kv, w4.ck, w4.fl, w4.cl, w4.lt, w4.c0⟩
    exact View.of encS_length ((htb0.ext w3 (z0ne hk.1) h0.rs.c0).rows r hrm)
  obtain ⟨⟨_, _, _, _, m4, _⟩, _⟩ := hI1.at
  have e1 : IntKind.wrap .i64 (σ.fr + 1) = σ.fr + 1 := w64 (by omega)
  obtain ⟨M2, v1, v2, v3, v4, v5⟩ := hI1.put hk.1 4 [.int .i64 (σ.fr + 1)] (by show 4 + 1 ≤ 14; decide)
  have hI2 : IsP ρ' k N P tp M2 w { B with pp := r.p, pc := 0 } { σ with pl := r.l, fr := σ.fr + 1 } :=
    ⟨v2, h0.cw, v4.bf, v4.cb, v4.pd, v4.cp, v4.kv, v4.ck, v4.fl, v4.cl, v4.lt, v4.c0⟩
  obtain ⟨⟨_, _, _, _, n4, _⟩, _⟩ := hI2.at
  simp only at m4 n4
  have e2 : IntKind.wrap .i64 (σ.fr + 1 - 1) = σ.fr := by rw [w64 (by omega)]; omega
  have gx := cells_ext (cells_ext g0 w3 (by rw [hx9]; exact fun h => hk.2 (congrArg Prod.fst h).symm)) v3 (by rw [hx9]; exact fun h => hk.2 (congrArg Prod.fst h).symm)
  obtain ⟨M3, q1, q2, q3, q4, z0, z1, z2, z3, z4⟩ := ev_tell gx rfl 2 σ.fr 0 false false
  rw [bLI m4, e1, bX v1, bLI n4, e2, bX q1, bLI z0, bLI z1, bLI z2, bLB z3, bLB z4, hrow]
  have x3 : Ext (fun c => c = (1, 9)) ρ' M2 ρ' M3 := Ext.of q2 (fun z hz _ => by simp only [List.mem_singleton] at hz; rw [hz]; exact hx9)
  refine ⟨M3, ρ', _, rfl, hI2.ext x3 (fun r h => hk.2 (congrArg Prod.fst h)) (fun h => by cases h), ?_⟩
  have x2 : Ext (Mine k) ρ M ρ' M2 := ((e0.mono (fun _ h => h.elim)).trans (w3.mono mine_of)).trans (v3.mono mine_of)
  exact ⟨Nat.le_trans x2.le q2.le, x2.col, fun z hz hn => by rw [q2.get z (Nat.lt_of_lt_of_le hz x2.le) (by simp; omega), x2.get z hz hn]⟩
theorem pc_end {M : AMem} {x4 : Nat} {cs : List Value} (h4 : Cells M x4 cs) (hl : cs.length = 5) :
    ∃ M', P42_26 LL x4 M = some (.agg #[.int .i64 1, .int .i64 0, .int .i64 0, .bool false, .bool false], M') ∧ Same M M' [x4] := by
  rw [P42_26_eq]
  obtain ⟨M', w1, w2, _, _, z0, z1, z2, z3, z4⟩ := ev_tell h4 hl 1 0 0 false false
  rw [bX w1, bLI z0, bLI z1, bLI z2, bLB z3, bLB z4]
  exact ⟨M', rfl, w2⟩
theorem st_mono (all size cur : Int) (s : Bt.CS) : s.lost ≤ (Bt.stepS all size cur s).lost ∧ (Bt.stepS all size cur s).lost ≤ s.lost + 1 := by
  unfold Bt.stepS
  split
  · exact ⟨Nat.le_refl _, by simp⟩
  · split
    · split
      · exact ⟨Nat.le_refl _, by simp⟩
      · exact ⟨by simp, by simp⟩
    · exact ⟨Nat.le_refl _, by simp⟩
theorem bT3 {β : Type} (a b c : Value) (f : List Value → Option β) : Option.bind (tupOf? 3 (.tuple #[a, b, c])) f = f [a, b, c] := rfl
theorem bG2 {β : Type} (a b c : Value) (l : List Value) (f : Value → Option β) : Option.bind ((a :: b :: c :: l)[2]?) f = f c := rfl
theorem pclaims {ρ : Cl} {k N : Nat} {P : WP} {tp : Option Addr} {M : AMem} {w : Nat} {B : PB} {σ : WS} {mb ma st wi : Nat} {L : List Int} (hk : k ≠ 0 ∧ k ≠ 1) (h : IsP ρ k N P tp M w B σ) (ho : σ.over = false) (hm : IsMem M mb ma L st wi) (hc : ρ mb = (1, 0) ∧ ρ ma = (1, 0))
    (hst : st < 1000000000) (hwi : wi < 1000000000) (hlo : σ.cs.lost ≤ σ.lost ∧ σ.lost < 1000000000) (hcf : Bt.CFit P.all P.size) (hok : σ.cs.ok P.all) (hph : σ.cs.ph < 2) (hL : L ≠ []) :
    ∃ M' ρ' B' wi', LL.call 42 [pt w, pt mb] M = some (.agg (encV (claimW P L σ).ev).toArray, M') ∧ IsP ρ' k N P tp M' w B' (claimW P L σ).σ ∧ IsMem M' mb ma (claimW P L σ).L (st + (claimW P L σ).dt) wi' ∧ wi' ≤ wi + 1 ∧ Ext (Ours k) ρ M ρ' M' := by
  rw [L_call42, E42]
  have s0 := same_app M [AObj.cells ev0 ⟨false, 0⟩]
  have g0 := cells_new M ev0 0
  generalize M ++ [AObj.cells ev0 ⟨false, 0⟩] = M0 at s0 g0 ⊢
  obtain ⟨ρ', e0, hx9⟩ := tmp_new (ρ := ρ) s0
  have hwl := h.hd.lt
  have mlt : mb < M.length ∧ ma < M.length := ⟨hm.hd.lt, hm.cs.lt⟩
  have h0 := h.ext e0 (fun _ h => h) (fun h => h)
  have hm0 := hm.same s0 (by simp) (by simp)
  have hc' : ρ' mb = (1, 0) ∧ ρ' ma = (1, 0) := ⟨by rw [e0.col _ mlt.1]; exact hc.1, by rw [e0.col _ mlt.2]; exact hc.2⟩
  obtain ⟨c1, c2⟩ := h0.rs.cl ho
  have l12 := h0.at.2.2.1
  unfold clC at l12
  rw [ho] at l12
  have hne : B.c ≠ mb ∧ B.c ≠ ma := ⟨fun e => by rw [e, hc'.1] at c2; exact hk.2 (congrArg Prod.fst c2).symm, fun e => by rw [e, hc'.2] at c2; exact hk.2 (congrArg Prod.fst c2).symm⟩
  obtain ⟨M1, wi', b1, b2, b3, b4, b5⟩ := Bt.bstep_spec hcf hok hph hL c1 hm0 hst hwi hne.1 hne.2
  have x1 : Ext (fun c => c = (k, 5) ∨ c = (1, 0)) ρ' M0 ρ' M1 := Ext.of b5 (fun z hz _ => by
    simp only [List.mem_cons, List.not_mem_nil, or_false] at hz
    rcases hz with rfl | rfl | rfl
    · exact .inl c2
    · exact .inr hc'.1
    · exact .inr hc'.2)
  obtain ⟨S, u, hS⟩ := x1.same
  have nk : ∀ r, r ≠ 5 → ¬ (fun c : Nat × Nat => c = (k, 5) ∨ c = (1, 0)) (k, r) := fun r hr h => by
    rcases h with h | h
    · exact hr (congrArg Prod.snd h)
    · exact hk.2 (congrArg Prod.fst h)
  have nz : ¬ (fun c : Nat × Nat => c = (k, 5) ∨ c = (1, 0)) (0, 0) := fun h => by
    rcases h with h | h
    · exact hk.1 (congrArg Prod.fst h).symm
    · cases h
  have nt : ¬ (fun c : Nat × Nat => c = (k, 5) ∨ c = (1, 0)) (1, 9) := fun h => by
    rcases h with h | h
    · exact hk.2 (congrArg Prod.fst h).symm
    · cases h
  have hd1 := cells_ext h0.hd x1 (by rw [h0.cw]; exact nk 0 (by decide))
  have r1 : RsP ρ' k N P M1 B { σ with cs := Bt.stepS P.all P.size (getI L 0) σ.cs } :=
    ⟨h0.rs.bf.same u (Ext.free (K := fun c : Nat × Nat => c = (k, 5) ∨ c = (1, 0)) h0.rs.cb hS (nk 1 (by decide))), h0.rs.cb.ext x1, view_arg h0.rs.pd h0.rs.cp h0.rs.lt h0.rs.c0 x1 nz, h0.rs.cp,
      h0.rs.kv.same u (Ext.free (K := fun c : Nat × Nat => c = (k, 5) ∨ c = (1, 0)) h0.rs.ck hS (nk 2 (by decide))), h0.rs.ck.ext x1, fun hh => by
        obtain ⟨f1, f2, f3, f4⟩ := h0.rs.fl hh
        have f := Ext.free (K := fun c : Nat × Nat => c = (k, 5) ∨ c = (1, 0)) f2 hS (nk 3 (by decide))
        exact ⟨f1.same u (f _ (by simp)) (fun b hb => f b (by simp [hb])), f2.ext x1, f3.same u (Ext.free (K := fun c : Nat × Nat => c = (k, 5) ∨ c = (1, 0)) f4 hS (nk 4 (by decide))), f4.ext x1⟩,
      fun _ => ⟨b2, c2⟩, Nat.le_trans h0.rs.lt x1.le, h0.rs.c0⟩
  have hI1 : IsP ρ' k N P tp M1 w B { σ with cs := Bt.stepS P.all P.size (getI L 0) σ.cs } := ⟨hd1, h0.cw, r1⟩
  have l13 := hI1.at.2.2.2
  simp only at l13
  obtain ⟨m1, m2⟩ := st_mono P.all P.size (getI L 0) σ.cs
  unfold claimW
  simp only
  generalize Bt.stepS P.all P.size (getI L 0) σ.cs = cs' at b2 r1 hI1 l13 m1 m2 ⊢
  have e1 : IntKind.wrap .i64 ((cs'.lost : Int) - (σ.cs.lost : Int)) = (cs'.lost : Int) - (σ.cs.lost : Int) := w64 (by omega)
  have e2 : IntKind.wrap .i64 ((σ.lost : Int) + ((cs'.lost : Int) - (σ.cs.lost : Int))) = ((σ.lost + cs'.lost - σ.cs.lost : Nat) : Int) := by rw [w64 (by omega)]; omega
  have hck : ∀ x, chkOk [(3, 5)] [(3, x)] [(5, (M1, M1))] = true := fun x => by simp [chkOk, List.lookup]
  obtain ⟨M2, d1, d2, d3, d4, d5⟩ := hI1.put hk.1 13 [.int .i64 ((σ.lost + cs'.lost - σ.cs.lost : Nat) : Int)] (by show 13 + 1 ≤ 14; decide)
  simp only [Nat.zero_add]
  rw [bLP l12]
  simp only [Bool.false_eq_true, if_false]
  rw [bX (Bt.lost_spec c1), bI, bX b1, bB, bLI l13, bX (Bt.lost_spec b2), bI, e1, e2, bX d1]
  simp only [hck, if_true]
  obtain ⟨ja, jb, jc, je, -, -⟩ := job_get B σ
  have hI2 : IsP ρ' k N P tp M2 w B { σ with cs := cs', lost := σ.lost + cs'.lost - σ.cs.lost } := by
    refine ⟨?_, h0.cw, d4.bf, d4.cb, d4.pd, d4.cp, d4.kv, d4.ck, d4.fl, d4.cl, d4.lt, d4.c0⟩
    have : wrL (encW P tp B { σ with cs := cs' }) 13 [.int .i64 ((σ.lost + cs'.lost - σ.cs.lost : Nat) : Int)] = encW P tp B { σ with cs := cs', lost := σ.lost + cs'.lost - σ.cs.lost } := by
      unfold encW
      have e1 : jobC B { σ with cs := cs' } = jobC B σ := rfl
      have e2 : jobC B { σ with cs := cs', lost := σ.lost + cs'.lost - σ.cs.lost } = jobC B σ := rfl
      rw [e1, e2, je]; rfl
    rw [← this]; exact d2
  have ge : ∀ {M3 : AMem} {r3 : Cl}, Ext (Mine k) ρ' M1 r3 M3 → ∃ cs, Cells M3 M.length cs ∧ cs.length = 5 := fun x => ⟨_, cells_ext (cells_ext g0 x1 (by rw [hx9]; exact nt)) x (by rw [hx9]; exact fun h => hk.2 (by exact h.symm)), rfl⟩
  have mine : ¬ Mine k (1, 0) := fun h => hk.2 (by exact h.symm)
  have memx : ∀ {M3 : AMem} {r3 : Cl}, Ext (Mine k) ρ' M1 r3 M3 → IsMem M3 mb ma (Bt.stepL P.all P.size L σ.cs) (st + 1) wi' := fun x => by
    obtain ⟨S', u', hS'⟩ := x.same
    exact b3.same u' (hS' _ b3.hd.lt (by rw [hc'.1]; exact mine)) (hS' _ b3.cs.lt (by rw [hc'.2]; exact mine))
  have fin : ∀ {M3 : AMem} {r3 : Cl} {B3 : PB} {σ3 : WS}, IsP r3 k N P tp M3 w B3 σ3 → Ext (Mine k) ρ' M1 r3 M3 →
      ∃ M' ρ4 B' wi', P42_26 LL M.length M3 = some (.agg (encV ⟨1, 0, 0, false, false⟩).toArray, M') ∧ IsP ρ4 k N P tp M' w B' σ3 ∧ IsMem M' mb ma (Bt.stepL P.all P.size L σ.cs) (st + 1) wi' ∧ wi' ≤ wi + 1 ∧ Ext (Ours k) ρ M ρ4 M' := fun {M3 r3 B3 σ3} hI x => by
    obtain ⟨cs, gx, gl⟩ := ge x
    obtain ⟨M4, q1, q2⟩ := pc_end gx gl
    have r9 : r3 M.length = (1, 9) := by rw [x.col _ (Nat.lt_of_lt_of_le g0.lt x1.le), hx9]
    have x4 : Ext (fun c => c = (1, 9)) r3 M3 r3 M4 := Ext.of q2 (fun z hz _ => by simp only [List.mem_singleton] at hz; rw [hz]; exact r9)
    have mx := memx x
    refine ⟨M4, r3, B3, wi', q1, hI.ext x4 (fun r h => hk.2 (congrArg Prod.fst h)) (fun h => by cases h), mx.same q2 (by simp; omega) (by simp; omega), by omega, ?_⟩
    have x2 : Ext (Ours k) ρ M r3 M3 := ((e0.mono (fun _ h => h.elim)).trans (x1.mono (fun c hc => by
      rcases hc with rfl | rfl
      · exact .inl rfl
      · exact .inr rfl))).trans (x.mono (fun c hc => .inl hc))
    exact ⟨Nat.le_trans x2.le q2.le, x2.col, fun z hz hn => by rw [q2.get z (Nat.lt_of_lt_of_le hz x2.le) (by simp; omega), x2.get z hz hn]⟩
  obtain ⟨c21, _⟩ := hI2.rs.cl ho
  have x2 := d3.mono (K' := Mine k) mine_of
  rw [bX (Bt.done_spec c21), bB]
  by_cases hd : 1 < cs'.ph
  · rw [ifD hd, if_neg (show ¬ cs'.ph < 2 by omega)]
    obtain ⟨M3, v1, v2, v3, v4, v5⟩ := hI2.put hk.1 12 [.pointer none] (by show 12 + 1 ≤ 14; decide)
    have hI3 : IsP ρ' k N P tp M3 w B { σ with cs := cs', lost := σ.lost + cs'.lost - σ.cs.lost, over := true } := by
      refine ⟨?_, h0.cw, v4.bf, v4.cb, v4.pd, v4.cp, v4.kv, v4.ck, v4.fl, fun h => by simp at h, v4.lt, v4.c0⟩
      have : wrL (encW P tp B { σ with cs := cs', lost := σ.lost + cs'.lost - σ.cs.lost }) 12 [.pointer none] = encW P tp B { σ with cs := cs', lost := σ.lost + cs'.lost - σ.cs.lost, over := true } := by
        unfold encW
        have e1 : jobC B { σ with cs := cs', lost := σ.lost + cs'.lost - σ.cs.lost } = jobC B σ := rfl
        have e2 : jobC B { σ with cs := cs', lost := σ.lost + cs'.lost - σ.cs.lost, over := true } = jobC B σ := rfl
        rw [e1, e2, je]; rfl
      rw [← this]; exact v2
    have c31 := (v4.cl ho).1
    rw [bX v1, bX (Bt.range_spec c31), if_pos hd, bT3, bG0, bI, bG1, bI, bG2, bB]
    have x3 := x2.trans (v3.mono (K' := Mine k) mine_of)
    by_cases hft : cs'.fr < cs'.to
    · rw [decide_eq_true hft, ifT, if_pos hft]
      obtain ⟨M4, u1, u2, u3, u4, u5⟩ := hI3.put hk.1 4 [.int .i64 cs'.fr] (by show 4 + 1 ≤ 14; decide)
      have hI4 : IsP ρ' k N P tp M4 w B { σ with cs := cs', lost := σ.lost + cs'.lost - σ.cs.lost, over := true, fr := cs'.fr } :=
        ⟨u2, h0.cw, u4.bf, u4.cb, u4.pd, u4.cp, u4.kv, u4.ck, u4.fl, u4.cl, u4.lt, u4.c0⟩
      obtain ⟨M5, t1, t2, t3, t4, t5⟩ := hI4.put hk.1 5 [.int .i64 cs'.to] (by show 5 + 1 ≤ 14; decide)
      have hI5 : IsP ρ' k N P tp M5 w B { σ with cs := cs', lost := σ.lost + cs'.lost - σ.cs.lost, over := true, fr := cs'.fr, to := cs'.to } :=
        ⟨t2, h0.cw, t4.bf, t4.cb, t4.pd, t4.cp, t4.kv, t4.ck, t4.fl, t4.cl, t4.lt, t4.c0⟩
      obtain ⟨⟨_, _, y2, y3, _⟩, _⟩ := hI5.at
      obtain ⟨M6, n1, n2, n3, n4⟩ := Bt.bnew_spec hcf M5
      have n1' : LL.call 28 [.int .i64 (Int.ofNat P.tb.length), .int .i64 P.size] M5 = _ := n1
      rw [bX u1, bX t1, bLS y3, bLI y2]
      simp only
      rw [bX n1', bP]
      have x6 : Ext (fun _ => False) ρ' M5 (upd ρ' M5.length fun _ => (k, 5)) M6 := Ext.upd n3 (fun z hz => by simp at hz) _
      have hr6 : (upd ρ' M5.length fun _ => (k, 5)) M5.length = (k, 5) := upd_ge (Nat.le_refl _)
      generalize (upd ρ' M5.length fun _ => (k, 5)) = ρ6 at x6 hr6
      have hI6 := hI5.ext x6 (fun _ h => h) (fun h => h)
      obtain ⟨M7, p1, p2, p3, p4, p5⟩ := hI6.put hk.1 12 [pt M5.length] (by show 12 + 1 ≤ 14; decide)
      rw [bX p1]
      have hI7 : IsP ρ6 k N P tp M7 w { B with c := M5.length } { σ with cs := .init, lost := σ.lost + cs'.lost - σ.cs.lost, fr := cs'.fr, to := cs'.to } := by
        refine ⟨?_, hI6.cw, p4.bf, p4.cb, p4.pd, p4.cp, p4.kv, p4.ck, p4.fl, fun _ => ⟨cells_ext n2 p3 (by rw [hr6]; exact k0ne (by decide)), hr6⟩, p4.lt, p4.c0⟩
        have : wrL (encW P tp B { σ with cs := cs', lost := σ.lost + cs'.lost - σ.cs.lost, over := true, fr := cs'.fr, to := cs'.to }) 12 [pt M5.length] = encW P tp { B with c := M5.length } { σ with cs := .init, lost := σ.lost + cs'.lost - σ.cs.lost, fr := cs'.fr, to := cs'.to } := by
          unfold encW clC
          have e1 : jobC B { σ with cs := cs', lost := σ.lost + cs'.lost - σ.cs.lost, over := true, fr := cs'.fr, to := cs'.to } = jobC B σ := rfl
          have e2 : jobC { B with c := M5.length } { σ with cs := .init, lost := σ.lost + cs'.lost - σ.cs.lost, fr := cs'.fr, to := cs'.to } = jobC B σ := rfl
          rw [e1, e2, je, ho]; rfl
        rw [← this]; exact p2
      exact fin hI7 ((((x3.trans (u3.mono mine_of)).trans (t3.mono mine_of)).trans (x6.mono (fun _ h => h.elim))).trans (p3.mono mine_of))
    · rw [decide_eq_false hft, ifF, if_neg hft]
      exact fin hI3 x3
  · rw [ifDn hd, if_pos (show cs'.ph < 2 by omega)]
    exact fin hI2 x2
structure WPok (P : WP) : Prop where
  rt : Rt P.p P.s
  rm : 1 ≤ P.room ∧ P.room ≤ 4096
  cf : Bt.CFit P.all P.size
  tb : ∀ l ∈ P.tb, l.length ≤ 1000000 ∧ ∀ x ∈ l, SpOk P x
structure WOk (P : WP) (n : Nat) (σ : WS) : Prop where
  pl : σ.pl.length ≤ 1000000 ∧ ∀ x ∈ σ.pl, SpOk P x
  es : (σ.es.length : Int) ≤ P.room ∧ ∀ e ∈ σ.es, 0 ≤ e.px ∧ e.px < P.p
  ks : σ.ks.length ≤ 1000000 ∧ ∀ x ∈ σ.ks, 0 ≤ x ∧ x < P.s
  fr : 0 ≤ σ.fr ∧ σ.to ≤ P.all
  lo : σ.lost ≤ n
  fl : σ.has = true → σ.fs.lost ≤ σ.lost ∧ σ.fs.nx < σ.fs.adds.length ∧ σ.fs.size = 1 + 2 * P.s + 3 * P.p ∧ σ.fs.adds.length ≤ 1000000
  en : σ.en.length ≤ 4096
  cl : σ.over = false → σ.cs.lost ≤ σ.lost ∧ σ.cs.ph < 2 ∧ (σ.cs.ph = 1 → 0 ≤ σ.cs.seen ∧ σ.cs.seen < P.all) ∧ ¬ σ.cs.fr < σ.cs.to
theorem putE_ok {P : WP} (hr : 1 ≤ P.room) {x : Sp} (hx : SpOk P x) {es : List En} (h : (es.length : Int) ≤ P.room ∧ ∀ e ∈ es, 0 ≤ e.px ∧ e.px < P.p) :
    (∀ es', putE P.room x.px x.r x.g x.b es = some es' → ((es'.length : Int) ≤ P.room ∧ ∀ e ∈ es', 0 ≤ e.px ∧ e.px < P.p)) ∧ (putE P.room x.px x.r x.g x.b es = none → es ≠ []) := by
  unfold putE
  cases hp : pix x.px es with
  | some i =>
    obtain ⟨e0, he, hex⟩ := pix_some hp
    refine ⟨fun es' h' => ?_, fun h' => (by cases h')⟩
    cases h'
    refine ⟨by rw [List.length_set]; exact h.1, fun e hm => ?_⟩
    rcases List.mem_or_eq_of_mem_set hm with hm | hm
    · exact h.2 e hm
    · subst hm
      have : es.getD i ⟨0, 0, 0, 0⟩ = e0 := by rw [List.getD_eq_getElem?_getD, he]; rfl
      rw [this]
      exact h.2 e0 (List.mem_of_getElem? he)
  | none =>
    by_cases c : (es.length : Int) = P.room
    · simp only [c, if_true]
      refine ⟨fun es' h' => (by cases h'), fun _ e => ?_⟩
      rw [e] at c; simp at c; omega
    · simp only [c, if_false]
      refine ⟨fun es' h' => ?_, fun h' => (by cases h')⟩
      cases h'
      refine ⟨by simp; omega, fun e hm => ?_⟩
      rcases List.mem_append.1 hm with hm | hm
      · exact h.2 e hm
      · simp only [List.mem_singleton] at hm
        subst hm
        exact hx.1
theorem putAll_ok {P : WP} (hr : 1 ≤ P.room) : ∀ (l : List Sp) (es : List En), (∀ x ∈ l, SpOk P x) → ((es.length : Int) ≤ P.room ∧ ∀ e ∈ es, 0 ≤ e.px ∧ e.px < P.p) →
    ((putAll P.room l es).1.length ≤ l.length ∧ ∀ x ∈ (putAll P.room l es).1, SpOk P x) ∧ (((putAll P.room l es).2.length : Int) ≤ P.room ∧ ∀ e ∈ (putAll P.room l es).2, 0 ≤ e.px ∧ e.px < P.p) ∧ ((putAll P.room l es).1 ≠ [] → (putAll P.room l es).2 ≠ [])
  | [], es, _, h => ⟨⟨by simp [putAll], fun x hx => by simp [putAll] at hx⟩, h, fun h => absurd rfl h⟩
  | x :: l, es, hl, h => by
    obtain ⟨k1, k2⟩ := putE_ok hr (hl x (by simp)) h
    cases hp : putE P.room x.px x.r x.g x.b es with
    | none =>
      have e : putAll P.room (x :: l) es = (x :: l, es) := by simp [putAll, hp]
      rw [e]
      exact ⟨⟨Nat.le_refl _, hl⟩, h, fun _ => k2 hp⟩
    | some es' =>
      have e : putAll P.room (x :: l) es = putAll P.room l es' := by simp [putAll, hp]
      rw [e]
      obtain ⟨q1, q2, q3⟩ := putAll_ok hr l es' (fun y hy => hl y (by simp [hy])) (k1 es' hp)
      exact ⟨⟨Nat.le_trans q1.1 (by simp), q1.2⟩, q2, q3⟩
theorem strs_mem {s : Int} {es : List En} {n : Nat} {x : Int} (h : x ∈ strs s es n) : 0 ≤ x ∧ x < (n : Int) := by
  unfold strs at h
  obtain ⟨h1, _⟩ := List.mem_filter.1 h
  obtain ⟨i, hi, rfl⟩ := List.mem_map.1 h1
  rw [List.mem_range] at hi
  rw [ofN]
  omega
theorem strs_ne {s : Int} (hs : 0 < s) {es : List En} (h : es ≠ []) (hp : ∀ e ∈ es, 0 ≤ e.px) : strs s es s.toNat ≠ [] := by
  obtain ⟨e, r, rfl⟩ : ∃ e r, es = e :: r := by cases es with
    | nil => exact absurd rfl h
    | cons e r => exact ⟨e, r, rfl⟩
  have h0 := hp e (by simp)
  have h1 : 0 ≤ Int.tmod e.px s := Int.tmod_nonneg _ h0
  have h2 : Int.tmod e.px s < s := Int.tmod_lt_of_pos _ hs
  intro hn
  have : Int.tmod e.px s ∈ strs s (e :: r) s.toNat := by
    unfold strs
    refine List.mem_filter.2 ⟨List.mem_map.2 ⟨(Int.tmod e.px s).toNat, List.mem_range.2 (by omega), by rw [ofN]; omega⟩, ?_⟩
    simp [List.filter_cons, inS]
  rw [hn] at this
  simp at this
section
variable {P : WP} {n : Nat} {σ : WS}
def gathW (P : WP) (σ : WS) : WS := { σ with pl := (putAll P.room σ.pl σ.es).1, es := (putAll P.room σ.pl σ.es).2 }
theorem gathW_ok (hP : WPok P) (h : WOk P n σ) : WOk P n (gathW P σ) := by
  obtain ⟨q1, q2, _⟩ := putAll_ok hP.rm.1 σ.pl σ.es h.pl.2 h.es
  exact ⟨⟨Nat.le_trans q1.1 h.pl.1, q1.2⟩, q2, h.ks, h.fr, h.lo, h.fl, h.en, h.cl⟩
theorem gathW_ne (hP : WPok P) (h : WOk P n σ) (hne : (gathW P σ).pl ≠ []) : (gathW P σ).es ≠ [] := (putAll_ok hP.rm.1 σ.pl σ.es h.pl.2 h.es).2.2 hne
theorem stripesW_ok (hP : WPok P) (h : WOk P n σ) : WOk P n (stripesW P σ) := by
  obtain ⟨r1, r2, r3, r4⟩ := hP.rt
  refine ⟨h.pl, h.es, ⟨?_, fun x hx => ?_⟩, h.fr, h.lo, h.fl, h.en, h.cl⟩
  · have := strs_len P.s σ.es P.s.toNat
    show (strs P.s σ.es P.s.toNat).length ≤ 1000000
    omega
  · have := strs_mem hx; omega
theorem stripesW_ne (hP : WPok P) (h : WOk P n σ) (hne : σ.es ≠ []) : (stripesW P σ).ks ≠ [] :=
  strs_ne (by have := hP.rt.2.2.1; omega) hne (fun e he => (h.es.2 e he).1)
theorem adds_len (s st : Int) (es : List En) (h : es.length ≤ 4096) : 0 < (flAdds s st es).length ∧ (flAdds s st es).length ≤ 1000000 := by
  have := esAdds_len s es
  unfold flAdds
  simp only [List.length_cons, List.length_append, List.length_nil]
  omega
theorem beginW_ok (hP : WPok P) (h : WOk P n σ) : WOk P n (beginW P σ) := by
  have hl1 := List.length_filter_le (inS P.s (σ.ks.headD 0)) σ.es
  have hl2 := List.length_filter_le (outS P.s (σ.ks.headD 0)) σ.es
  have h1 := h.es.1
  have h2 := hP.rm.2
  refine ⟨h.pl, ⟨?_, fun e he => h.es.2 e (List.mem_filter.1 he).1⟩, ⟨?_, fun x hx => h.ks.2 x (List.mem_of_mem_tail hx)⟩, h.fr, h.lo, fun _ => ?_, ?_, h.cl⟩
  · show ((σ.es.filter (outS P.s (σ.ks.headD 0))).length : Int) ≤ P.room
    omega
  · show σ.ks.tail.length ≤ 1000000
    have := h.ks.1
    rw [List.length_tail]; omega
  · obtain ⟨q1, q2⟩ := adds_len P.s (σ.ks.headD 0) (σ.es.filter (inS P.s (σ.ks.headD 0))) (by omega)
    exact ⟨Nat.zero_le _, q1, rfl, q2⟩
  · show (σ.es.filter (inS P.s (σ.ks.headD 0))).length ≤ 4096
    omega
theorem flushW_ok {L : List Int} (hP : WPok P) (h : WOk P n σ) (hh : σ.has = true) : WOk P (n + 1) (flushW L σ).σ := by
  obtain ⟨m1, m2, m3, m4⟩ := nx_mono L σ.fs
  obtain ⟨f1, f2, f3, f4⟩ := h.fl hh
  have hlo := h.lo
  have hs : (fS L σ.fs).size = σ.fs.size := by unfold fS; split <;> (try split) <;> (try split) <;> rfl
  have hn : (fS L σ.fs).nx ≤ σ.fs.nx + 1 := by unfold fS; split <;> (try split) <;> (try split) <;> simp
  refine ⟨h.pl, h.es, h.ks, h.fr, ?_, fun he => ?_, h.en, fun ho => ?_⟩
  · show σ.lost + (fS L σ.fs).lost - σ.fs.lost ≤ n + 1
    omega
  · have he' : (!endedF (fS L σ.fs)) = true := he
    unfold endedF at he'
    simp only [Bool.not_eq_true', decide_eq_false_iff_not] at he'
    refine ⟨?_, ?_, ?_, ?_⟩
    · show (fS L σ.fs).lost ≤ σ.lost + (fS L σ.fs).lost - σ.fs.lost
      omega
    · show (fS L σ.fs).nx < (fS L σ.fs).adds.length
      rw [m4] at he' ⊢; omega
    · show (fS L σ.fs).size = _
      rw [hs]; exact f3
    · show (fS L σ.fs).adds.length ≤ _
      rw [m4]; exact f4
  · obtain ⟨c1, c2, c3⟩ := h.cl ho
    exact ⟨by show σ.cs.lost ≤ σ.lost + (fS L σ.fs).lost - σ.fs.lost; omega, c2, c3⟩
theorem tb_ok (hP : WPok P) (i : Nat) : (P.tb.getD i []).length ≤ 1000000 ∧ ∀ x ∈ P.tb.getD i [], SpOk P x := by
  rw [List.getD_eq_getElem?_getD]
  cases hi : P.tb[i]? with
  | none => exact ⟨by simp, fun x hx => by simp at hx⟩
  | some l => exact hP.tb l (List.mem_of_getElem? hi)
theorem traceW_ok (hP : WPok P) (h : WOk P n σ) : WOk P n { σ with pl := P.tb.getD σ.fr.toNat [], fr := σ.fr + 1 } :=
  ⟨tb_ok hP _, h.es, h.ks, ⟨by have := h.fr.1; show 0 ≤ σ.fr + 1; omega, h.fr.2⟩, h.lo, h.fl, h.en, h.cl⟩
theorem claimW_ok {L : List Int} (hP : WPok P) (hL : 0 ≤ getI L 0) (h : WOk P n σ) (ho : σ.over = false) : WOk P (n + 1) (claimW P L σ).σ := by
  obtain ⟨m1, m2⟩ := st_mono P.all P.size (getI L 0) σ.cs
  obtain ⟨c1, c2, c3, c4⟩ := h.cl ho
  have hlo := h.lo
  have a0 := hP.cf.a0
  have s0 := hP.cf.s0
  have key : ((Bt.stepS P.all P.size (getI L 0) σ.cs).ph = 1 → 0 ≤ (Bt.stepS P.all P.size (getI L 0) σ.cs).seen ∧ (Bt.stepS P.all P.size (getI L 0) σ.cs).seen < P.all) ∧
      ((Bt.stepS P.all P.size (getI L 0) σ.cs).fr < (Bt.stepS P.all P.size (getI L 0) σ.cs).to → ¬ (Bt.stepS P.all P.size (getI L 0) σ.cs).ph < 2 ∧ 0 ≤ (Bt.stepS P.all P.size (getI L 0) σ.cs).fr ∧ (Bt.stepS P.all P.size (getI L 0) σ.cs).to ≤ P.all) := by
    unfold Bt.stepS
    by_cases z0 : σ.cs.ph = 0
    · rw [if_pos z0]
      refine ⟨fun h1 => ?_, fun h1 => absurd h1 c4⟩
      simp only at h1 ⊢
      by_cases hc : getI L 0 ≥ P.all
      · rw [if_pos hc] at h1; omega
      · exact ⟨hL, by omega⟩
    · have z1 : σ.cs.ph = 1 := by omega
      have := c3 z1
      rw [if_neg z0, if_pos z1]
      by_cases e : getI L 0 = σ.cs.seen
      · rw [if_pos e]
        refine ⟨fun h1 => by simp at h1, fun _ => ⟨by simp, this.1, ?_⟩⟩
        simp only
        omega
      · rw [if_neg e]
        exact ⟨fun h1 => by simp at h1, fun h1 => absurd h1 c4⟩
  unfold claimW
  simp only
  generalize Bt.stepS P.all P.size (getI L 0) σ.cs = cs' at m1 m2 key ⊢
  have flx : σ.has = true → σ.fs.lost ≤ σ.lost + cs'.lost - σ.cs.lost ∧ σ.fs.nx < σ.fs.adds.length ∧ σ.fs.size = 1 + 2 * P.s + 3 * P.p ∧ σ.fs.adds.length ≤ 1000000 := fun hh => by
    obtain ⟨f1, f2⟩ := h.fl hh
    exact ⟨by omega, f2⟩
  have lox : σ.lost + cs'.lost - σ.cs.lost ≤ n + 1 := by omega
  by_cases hp : cs'.ph < 2
  · rw [if_pos hp]
    exact ⟨h.pl, h.es, h.ks, h.fr, lox, flx, h.en, fun _ => ⟨by show cs'.lost ≤ σ.lost + cs'.lost - σ.cs.lost; omega, hp, key.1, fun hft => (key.2 hft).1 hp⟩⟩
  · rw [if_neg hp]
    by_cases hft : cs'.fr < cs'.to
    · rw [if_pos hft]
      obtain ⟨_, k1, k2⟩ := key.2 hft
      exact ⟨h.pl, h.es, h.ks, ⟨k1, k2⟩, lox, flx, h.en, fun _ => ⟨Nat.zero_le _, Nat.zero_lt_two, fun h => by simp [Bt.CS.init] at h, by simp [Bt.CS.init]⟩⟩
    · rw [if_neg hft]
      exact ⟨h.pl, h.es, h.ks, h.fr, lox, flx, h.en, fun h => by simp at h⟩
theorem WOk.mono {m : Nat} (h : WOk P n σ) (hm : n ≤ m) : WOk P m σ := ⟨h.pl, h.es, h.ks, h.fr, Nat.le_trans h.lo hm, h.fl, h.en, h.cl⟩
theorem stepW_ok {L : List Int} (hP : WPok P) (hL : 0 ≤ getI L 0) (h : WOk P n σ) : WOk P (n + 1) (stepW P L σ).σ := by
  unfold stepW
  by_cases hh : σ.has = true
  · rw [if_pos hh]; exact flushW_ok hP h hh
  rw [if_neg hh]
  by_cases hk : σ.ks ≠ []
  · rw [if_pos hk]; exact flushW_ok hP (beginW_ok hP h) rfl
  rw [if_neg hk]
  have hg := gathW_ok hP h
  show WOk P (n + 1) (if (gathW P σ).pl ≠ [] then flushW L (beginW P (stripesW P (gathW P σ))) else if (gathW P σ).fr < (gathW P σ).to then ⟨{ gathW P σ with pl := P.tb.getD (gathW P σ).fr.toNat [], fr := (gathW P σ).fr + 1 }, L, ⟨2, (gathW P σ).fr, 0, false, false⟩, 0⟩
    else if !(gathW P σ).over then claimW P L (gathW P σ) else if (gathW P σ).es ≠ [] then flushW L (beginW P (stripesW P (gathW P σ))) else ⟨gathW P σ, L, .zero, 0⟩ : WR).σ
  split
  · exact flushW_ok hP (beginW_ok hP (stripesW_ok hP hg)) rfl
  · split
    · exact (traceW_ok hP hg).mono (by omega)
    · split
      · next ho => exact claimW_ok hP hL hg (by simpa using ho)
      · split
        · exact flushW_ok hP (beginW_ok hP (stripesW_ok hP hg)) rfl
        · exact hg.mono (by omega)
end
def LOk (P : WP) (L : List Int) : Prop := (L.length : Int) = 1 + 2 * P.s + 3 * P.p ∧ ∀ x ∈ L, 0 ≤ x
theorem LOk.get {P : WP} {L : List Int} (h : LOk P L) (i : Int) : 0 ≤ getI L i := by
  unfold getI
  split
  · next hi =>
    unfold inR at hi
    rw [List.getD_eq_getElem?_getD, gee (by omega)]
    exact h.2 _ (List.getElem_mem _)
  · exact Int.le_refl _
theorem LOk.set {P : WP} {L : List Int} (h : LOk P L) (i : Nat) {x : Int} (hx : 0 ≤ x) : LOk P (L.set i x) := by
  refine ⟨by rw [List.length_set]; exact h.1, fun y hy => ?_⟩
  rcases List.mem_or_eq_of_mem_set hy with hy | hy
  · exact h.2 y hy
  · rw [hy]; exact hx
theorem u64_pos (x : Int) : 0 ≤ IntKind.wrap .u64 x := by
  rw [wrapu64]
  omega
theorem fL_ok {P : WP} {L : List Int} (h : LOk P L) (s : FS) : LOk P (fL L s) := by
  unfold fL
  split
  · exact h.set _ (u64_pos _)
  · exact h
theorem stepL_ok {P : WP} {L : List Int} {n : Nat} {σ : WS} (hP : WPok P) (h : LOk P L) (hσ : WOk P n σ) (ho : σ.over = false) : LOk P (Bt.stepL P.all P.size L σ.cs) := by
  obtain ⟨c1, c2, c3, c4⟩ := hσ.cl ho
  have s0 := hP.cf.s0
  unfold Bt.stepL
  split
  · next h1 =>
    have := c3 h1
    unfold casL
    split
    · exact h.set _ (by omega)
    · exact h
  · exact h
theorem stepW_L {P : WP} {L : List Int} {n : Nat} {σ : WS} (hP : WPok P) (h : LOk P L) (hσ : WOk P n σ) : LOk P (stepW P L σ).L := by
  unfold stepW
  split
  · exact fL_ok h _
  · split
    · exact fL_ok h _
    · have hg := gathW_ok hP hσ
      simp only
      split
      · exact fL_ok h _
      · split
        · exact h
        · split
          · next ho => exact stepL_ok hP h hg (by simpa using ho)
          · split
            · exact fL_ok h _
            · exact h
theorem fov_of {P : WP} {L : List Int} {n : Nat} {σ : WS} (h : LOk P L) (hσ : WOk P n σ) (hh : σ.has = true) : fOver L σ.fs = false := by
  obtain ⟨f1, f2, f3, f4⟩ := hσ.fl hh
  have := h.1
  unfold fOver
  exact decide_eq_false (by omega)
theorem E7 (n : Rec) (b : Int) (o : AMem) : enterF n a7 [.int .i64 b] o = (if (decide (b < 0)) = true then (Option.bind (AMem.wr (o ++ [AObj.cells [.slice none 0 0, .int .i64 0, .int .i64 0] ⟨false, 0⟩]) o.length 0 [.slice none 0 0, .int .i64 0, .int .i64 0]) fun c => (Option.bind (sliceOf? (c.ld o.length 0)) fun f => (Option.bind (intOf? .i64 (c.ld o.length 1)) fun j => (Option.bind (intOf? .i64 (c.ld o.length 2)) fun k => some (.tuple #[.agg #[.slice f.1 f.2.1 f.2.2, .int .i64 j, .int .i64 k], .bool false], c))))) else (if (decide (b > 262144)) = true then (Option.bind (AMem.wr (o ++ [AObj.cells [.slice none 0 0, .int .i64 0, .int .i64 0] ⟨false, 0⟩]) o.length 0 [.slice none 0 0, .int .i64 0, .int .i64 0]) fun d => (Option.bind (sliceOf? (d.ld o.length 0)) fun g => (Option.bind (intOf? .i64 (d.ld o.length 1)) fun l => (Option.bind (intOf? .i64 (d.ld o.length 2)) fun m => some (.tuple #[.agg #[.slice g.1 g.2.1 g.2.2, .int .i64 l, .int .i64 m], .bool false], d))))) else (if (0 : Int) ≤ b ∧ b ≤ b ∧ b ≤ 140737488355328 ∧ b * 8 ≤ 140737488355328 then (Option.bind (AMem.wr ((o ++ [AObj.cells [.slice none 0 0, .int .i64 0, .int .i64 0] ⟨false, 0⟩]) ++ [AObj.cells (List.replicate (Int.toNat b) (.int .u64 0)) ⟨false, 0⟩]) o.length 0 [.slice (some ⟨(List.length (o ++ [AObj.cells [.slice none 0 0, .int .i64 0, .int .i64 0] ⟨false, 0⟩])), 0, none⟩) (Int.toNat b) 1, .int .i64 0, .int .i64 0]) fun e => (Option.bind (sliceOf? (e.ld o.length 0)) fun a => (Option.bind (intOf? .i64 (e.ld o.length 1)) fun h => (Option.bind (intOf? .i64 (e.ld o.length 2)) fun i => some (.tuple #[.agg #[.slice a.1 a.2.1 a.2.2, .int .i64 h, .int .i64 i], .bool true], e))))) else none))) := by kernel_rfl
theorem E75 (m : Rec) (c : Option Addr) (b : Int) (n : AMem) : enterF m a75 [.pointer c, .int .i64 b] n = (match c with | some d => (Option.bind (intOf? .i64 (n.ld d.block (d.off + 1))) fun k => (match c with | some e => (Option.bind (n.wr e.block (e.off + 1) [.int .i64 (IntKind.wrap .i64 (k + 1))]) fun a => (if (decide (b < 0)) = true then some (.tuple #[.int .u64 0, .bool false], a) else (match c with | some f => (Option.bind (sliceOf? (a.ld f.block f.off)) fun l => (if (decide (b ≥ (Int.ofNat l.2.1))) = true then some (.tuple #[.int .u64 0, .bool false], a) else (match c with | some g => (Option.bind (sliceOf? (a.ld g.block g.off)) fun h => (match h.1 with | some i => (if (0 : Int) ≤ b ∧ b < (Int.ofNat h.2.1) then (Option.bind (intOf? .u64 (a.ld i.block (i.off + ((Int.toNat b) * 1)))) fun j => some (.tuple #[.int .u64 j, .bool true], a)) else none) | none => none)) | none => none))) | none => none))) | none => none)) | none => none) := by kernel_rfl
theorem E76 (w : Rec) (c : Option Addr) (b u v : Int) (x : AMem) : enterF w a76 [.pointer c, .int .i64 b, .int .u64 u, .int .u64 v] x = (match c with | some j => (Option.bind (intOf? .i64 (x.ld j.block (j.off + 1))) fun s => (match c with | some k => (Option.bind (x.wr k.block (k.off + 1) [.int .i64 (IntKind.wrap .i64 (s + 1))]) fun a => (if (decide (b < 0)) = true then some (.bool false, a) else (match c with | some l => (Option.bind (sliceOf? (a.ld l.block l.off)) fun t => (if (decide (b ≥ (Int.ofNat t.2.1))) = true then some (.bool false, a) else (match c with | some m => (Option.bind (sliceOf? (a.ld m.block m.off)) fun n => (match n.1 with | some o => (if (0 : Int) ≤ b ∧ b < (Int.ofNat n.2.1) then (Option.bind (intOf? .u64 (a.ld o.block (o.off + ((Int.toNat b) * 1)))) fun p => (if (p != u) = true then some (.bool false, a) else (match c with | some d => (Option.bind (sliceOf? (a.ld d.block d.off)) fun e => (match e.1 with | some f => (if (0 : Int) ≤ b ∧ b < (Int.ofNat e.2.1) then (Option.bind (a.wr f.block (f.off + ((Int.toNat b) * 1)) [.int .u64 v]) fun g => (match c with | some h => (Option.bind (intOf? .i64 (g.ld h.block (h.off + 2))) fun q => (match c with | some i => (Option.bind (g.wr i.block (i.off + 2) [.int .i64 (IntKind.wrap .i64 (q + 1))]) fun r => some (.bool true, r)) | none => none)) | none => none)) else none) | none => none)) | none => none))) else none) | none => none)) | none => none))) | none => none))) | none => none)) | none => none) := by kernel_rfl
structure IsRef (M : AMem) (b : Nat) (p : Option Addr) (c : Nat) (L : List Int) (st wi : Nat) : Prop where
  hd : Cells M b [.slice p L.length c, .int .i64 st, .int .i64 wi]
  cs : Slc M 1 p L.length c (ints .u64 L)
  ne : b ∉ blk p
theorem IsRef.same {M M' : AMem} {S : List Nat} {b : Nat} {p : Option Addr} {c : Nat} {L : List Int} {st wi : Nat} (h : IsRef M b p c L st wi) (k : Same M M' S) (hb : b ∉ S) (ha : ∀ x ∈ blk p, x ∉ S) : IsRef M' b p c L st wi :=
  ⟨h.hd.same k hb, h.cs.same k ha, h.ne⟩
theorem rnew_spec (n : Int) (M : AMem) (h : 0 ≤ n ∧ n ≤ 262144) :
    ∃ M' p, LL.call 7 [.int .i64 n] M = some (.tuple #[.agg #[.slice p n.toNat 1, .int .i64 0, .int .i64 0], .bool true], M') ∧ Slc M' 1 p n.toNat 1 (ints .u64 (List.replicate n.toNat 0)) ∧ Same M M' [] ∧ ∀ x ∈ blk p, M.length ≤ x := by
  rw [L_call7, E7]
  simp only [show ¬ n < 0 by omega, show ¬ n > 262144 by omega, decide_false, Bool.false_eq_true, if_false]
  rw [if_pos (by omega)]
  have g0 := cells_new M [.slice none 0 0, .int .i64 0, .int .i64 0] 0
  have s0 := same_app M [AObj.cells [.slice none 0 0, .int .i64 0, .int .i64 0] ⟨false, 0⟩]
  generalize hM0 : M ++ [AObj.cells [.slice none 0 0, .int .i64 0, .int .i64 0] ⟨false, 0⟩] = M0 at g0 s0
  have l0 : M0.length = M.length + 1 := by rw [← hM0]; simp
  have g1 := cells_new M0 (List.replicate n.toNat (.int .u64 0)) 0
  have s1 := same_app M0 [AObj.cells (List.replicate n.toNat (.int .u64 0)) ⟨false, 0⟩]
  have g0' := g0.same s1 (by simp)
  generalize hM1 : M0 ++ [AObj.cells (List.replicate n.toNat (.int .u64 0)) ⟨false, 0⟩] = M1 at g1 s1 g0'
  obtain ⟨M2, w1, w2, w3, _⟩ := g0'.wr (o := 0) (vs := [.slice (some ⟨M0.length, 0, none⟩) n.toNat 1, .int .i64 0, .int .i64 0]) (by simp)
  simp only [wrL, List.set_cons_zero, List.set_cons_succ] at w2
  simp only [w1, Option.bind_some, w2.ld, get0, get1, get2, sliceOf_slice, intOf_int]
  refine ⟨M2, some ⟨M0.length, 0, none⟩, rfl, .of ?_ (by simp), ((s0.trans s1).trans w3).mono' (by simp), by simp; omega⟩
  have := g1.same w3 (by simp; omega)
  simpa [ints] using this
theorem rload_spec {M : AMem} {b : Nat} {p : Option Addr} {c : Nat} {L : List Int} {st wi : Nat} (h : IsRef M b p c L st wi) (hst : st < 1000000000000000000) (i : Int) :
    ∃ M', LL.call 75 [pt b, .int .i64 i] M = some (.tuple #[.int .u64 (getI L i), .bool (decide (inR L i))], M') ∧ IsRef M' b p c L (st + 1) wi ∧ Same M M' [b] := by
  rw [L_call75, E75]
  obtain ⟨M', w1, w2, w3, _⟩ := h.hd.wr (o := 1) (vs := [.int .i64 ((st + 1 : Nat) : Int)]) (by simp)
  simp only [wrL, List.set_cons_zero, List.set_cons_succ] at w2
  have hw : IntKind.wrap .i64 ((st : Int) + 1) = ((st + 1 : Nat) : Int) := by rw [w64 (by omega)]; rfl
  have hne : ∀ x ∈ blk p, x ∉ [b] := fun x hx hb => by simp at hb; subst hb; exact h.ne hx
  have hm : IsRef M' b p c L (st + 1) wi := ⟨w2, h.cs.same w3 hne, h.ne⟩
  refine ⟨M', ?_, hm, w3⟩
  simp only [h.hd.ld, get0, get1, Nat.zero_add, intOf_int, Option.bind_some, hw, w1, w2.ld, sliceOf_slice]
  unfold getI inR
  by_cases c1 : i < 0
  · simp [c1, show ¬ 0 ≤ i by omega]
  · by_cases c2 : i ≥ (L.length : Int)
    · simp [c1, show ¬ i < (L.length : Int) by omega, show (L.length : Int) ≤ i by omega]
    · have hin : inR L i := ⟨by omega, by omega⟩
      obtain ⟨a, rfl, hc⟩ := hm.cs.pos (by omega)
      have hi : 0 ≤ i ∧ i < Int.ofNat L.length := ⟨by omega, by show i < (L.length : Int); omega⟩
      have c2' : ¬ i ≥ Int.ofNat L.length := c2
      simp only [c1, c2', decide_false, Bool.false_eq_true, if_false, hi, and_self, if_true, Nat.zero_add, Nat.mul_one, hc.ld, ints_at hin, intOf_int, Option.bind_some, decide_true]
      have : (0 ≤ i ∧ i < (L.length : Int)) := hin
      simp only [this, and_self, if_true, decide_true]
theorem rcas_spec {M : AMem} {b : Nat} {p : Option Addr} {c : Nat} {L : List Int} {st wi : Nat} (h : IsRef M b p c L st wi) (hst : st < 1000000000000000000) (hwi : wi < 1000000000000000000) (i old to : Int) :
    ∃ M', LL.call 76 [pt b, .int .i64 i, .int .u64 old, .int .u64 to] M = some (.bool (casB L i old), M') ∧
      IsRef M' b p c (casL L i old to) (st + 1) (if casB L i old then wi + 1 else wi) ∧ Same M M' (b :: blk p) := by
  rw [L_call76, E76]
  obtain ⟨M', w1, w2, w3, _⟩ := h.hd.wr (o := 1) (vs := [.int .i64 ((st + 1 : Nat) : Int)]) (by simp)
  simp only [wrL, List.set_cons_zero, List.set_cons_succ] at w2
  have hw : IntKind.wrap .i64 ((st : Int) + 1) = ((st + 1 : Nat) : Int) := by rw [w64 (by omega)]; rfl
  have hne : ∀ x ∈ blk p, x ∉ [b] := fun x hx hb => by simp at hb; subst hb; exact h.ne hx
  have hm : IsRef M' b p c L (st + 1) wi := ⟨w2, h.cs.same w3 hne, h.ne⟩
  have hs1 : Same M M' (b :: blk p) := w3.mono (by simp)
  simp only [h.hd.ld, get0, get1, Nat.zero_add, intOf_int, Option.bind_some, hw, w1, w2.ld, sliceOf_slice]
  unfold casL
  by_cases c1 : i < 0
  · have hb : casB L i old = false := by unfold casB inR; exact decide_eq_false fun h => by omega
    rw [hb]
    simp only [c1, decide_true, if_true]
    exact ⟨M', rfl, hm, hs1⟩
  · by_cases c2 : i ≥ (L.length : Int)
    · have hb : casB L i old = false := by unfold casB inR; exact decide_eq_false fun h => by omega
      rw [hb]
      have c2' : i ≥ Int.ofNat L.length := c2
      simp only [c1, c2', decide_true, decide_false, Bool.false_eq_true, if_false, if_true]
      exact ⟨M', rfl, hm, hs1⟩
    · have hin : inR L i := ⟨by omega, by omega⟩
      obtain ⟨a, rfl, hc⟩ := hm.cs.pos (by omega)
      have hi : 0 ≤ i ∧ i < Int.ofNat L.length := ⟨by omega, by show i < (L.length : Int); omega⟩
      have c2' : ¬ i ≥ Int.ofNat L.length := c2
      simp only [c1, c2', decide_false, Bool.false_eq_true, if_false, hi, and_self, if_true, Nat.zero_add, Nat.mul_one, hc.ld, ints_at hin, intOf_int, Option.bind_some]
      by_cases e : L.getD i.toNat 0 = old
      · have hb : casB L i old = true := by unfold casB getI; rw [if_pos hin, e]; simp [hin]
        rw [hb]
        simp only [e, bne_self_eq_false, Bool.false_eq_true, if_false, if_true]
        obtain ⟨M2, x1, x2, x3, _⟩ := hc.wr (o := i.toNat) (vs := [.int .u64 to]) (by simp; omega)
        rw [wrL_ints] at x2
        have hab : ¬ b = a := by have := h.ne; simpa using this
        have w2' := w2.same x3 (by simpa using hab)
        obtain ⟨M3, y1, y2, y3, _⟩ := w2'.wr (o := 2) (vs := [.int .i64 ((wi + 1 : Nat) : Int)]) (by simp)
        simp only [wrL, List.set_cons_zero, List.set_cons_succ] at y2
        have hw2 : IntKind.wrap .i64 ((wi : Int) + 1) = ((wi + 1 : Nat) : Int) := by rw [w64 (by omega)]; rfl
        simp only [x1, Option.bind_some, w2'.ld, get2, intOf_int, hw2, y1]
        refine ⟨M3, rfl, ⟨by simpa using y2, ?_, h.ne⟩, ((hs1.trans x3).trans y3).mono (by simp)⟩
        obtain ⟨_, hcase⟩ := h.cs
        rcases hcase with ⟨h0, _⟩ | ⟨a', h0, hc1, _⟩
        · cases h0
        · subst hc1
          have := x2.same y3 (by simp; omega)
          exact .of this (by simp)
      · have hb : casB L i old = false := by unfold casB getI; rw [if_pos hin]; exact decide_eq_false fun h => e h.2
        rw [hb]
        have : (L.getD i.toNat 0 != old) = true := by simpa using e
        simp only [this, if_true]
        exact ⟨M', rfl, hm, hs1⟩
structure Rf where
  z : Nat
  c : Nat
  s : FS
def encRf (x : Rf) : List Value := [.int .i64 x.s.size, .slice (some ⟨x.z, x.s.nx * 2, none⟩) (x.s.adds.length - x.s.nx) x.c, .int .i64 (x.s.adds.length : Int), .bool x.s.rd, .int .u64 x.s.seen, .int .i64 (x.s.lost : Int)]
theorem rf_ld {M : AMem} {b o : Nat} {A B : List Value} {x : Rf} (h : Mid M b o A (encRf x) B) :
    M.ld b o = some (.int .i64 x.s.size) ∧ M.ld b (o + 1) = some (.slice (some ⟨x.z, x.s.nx * 2, none⟩) (x.s.adds.length - x.s.nx) x.c) ∧ M.ld b (o + 2) = some (.int .i64 (x.s.adds.length : Int)) ∧ M.ld b (o + 3) = some (.bool x.s.rd) ∧ M.ld b (o + 4) = some (.int .u64 x.s.seen) ∧ M.ld b (o + 5) = some (.int .i64 (x.s.lost : Int)) :=
  ⟨h.ld0 rfl, h.ld 1 rfl, h.ld 2 rfl, h.ld 3 rfl, h.ld 4 rfl, h.ld 5 rfl⟩
theorem rf_wr {M : AMem} {b o : Nat} {A B : List Value} {x y : Rf} (h : Mid M b o A (encRf x) B) (j : Nat) (v : Value) (hj : j < 6) (e : (encRf x).set j v = encRf y) :
    ∃ M', M.wr b (o + j) [v] = some M' ∧ Mid M' b o A (encRf y) B ∧ Same M M' [b] := by
  obtain ⟨M', w1, w2, w3⟩ := h.wr j [v] (by show j + 1 ≤ 6; omega)
  exact ⟨M', w1, e ▸ w2, w3⟩
theorem rf_step {M : AMem} {rb o mr : Nat} {p : Option Addr} {c : Nat} {A B : List Value} {L : List Int} {st wi : Nat} {x : Rf} (h : Mid M rb o A (encRf x) B) (hz : Rd M x.z (x.s.adds.flatMap encA)) (hnx : x.s.nx ≤ x.s.adds.length) (hal : x.s.adds.length ≤ 1000000) (hm : IsRef M mr p c L st wi)
    (hst : st < 1000000000000000000) (hwi : wi < 1000000000000000000) (hlo : x.s.lost < 1000000000000000000) (h1 : rb ≠ mr ∧ rb ∉ blk p) (h2 : x.z ≠ rb ∧ x.z ≠ mr ∧ x.z ∉ blk p) :
    ∃ M' c', LL.call 72 [.pointer (some ⟨rb, o, none⟩), pt mr] M = some (.bool (!fOver L x.s), M') ∧ Mid M' rb o A (encRf ⟨x.z, c', fS L x.s⟩) B ∧ IsRef M' mr p c (fL L x.s) (st + fT L x.s) (wi + fW L x.s) ∧ Same M M' (rb :: mr :: blk p) := by
  rw [L_call72, E72]
  obtain ⟨d0, d1, d2, d3, d4, d5⟩ := rf_ld h
  have m0 : M.ld mr 0 = some (.slice p L.length c) := hm.hd.ld 0
  simp only [↓bLS d1]
  by_cases e : x.s.adds.length = x.s.nx
  · have ho : fOver L x.s = true := decide_eq_true (.inl e)
    have hw : fWon L x.s = false := by simp [fWon, ho]
    have hfs : fS L x.s = x.s := by unfold fS; rw [if_pos ho]
    have b : (Int.ofNat (x.s.adds.length - x.s.nx) == 0) = true := by rw [e, Nat.sub_self]; rfl
    refine ⟨M, x.c, ?_, by rw [hfs]; exact h, ?_, .refl _ _⟩
    · rw [b, ifT, ho]; rfl
    · rw [show fT L x.s = 0 by simp [fT, ho], show fL L x.s = L by simp [fL, hw], show fW L x.s = 0 by simp [fW, hw]]; exact hm
  have b : (Int.ofNat (x.s.adds.length - x.s.nx) == 0) = false := by rw [ofN]; exact beq_eq_false_iff_ne.2 (by omega)
  rw [b, ifF]
  simp only [↓bLS m0, ↓bLI d0]
  by_cases e2 : (L.length : Int) = x.s.size
  rotate_left
  · have ho : fOver L x.s = true := decide_eq_true (.inr e2)
    have hw : fWon L x.s = false := by simp [fWon, ho]
    have hfs : fS L x.s = x.s := by unfold fS; rw [if_pos ho]
    have b2 : (Int.ofNat L.length != x.s.size) = true := by rw [ofN]; simpa using e2
    refine ⟨M, x.c, ?_, by rw [hfs]; exact h, ?_, .refl _ _⟩
    · rw [b2, ifT, ho]; rfl
    · rw [show fT L x.s = 0 by simp [fT, ho], show fL L x.s = L by simp [fL, hw], show fW L x.s = 0 by simp [fW, hw]]; exact hm
  have b2 : (Int.ofNat L.length != x.s.size) = false := by rw [ofN]; simpa using e2
  have ho : fOver L x.s = false := decide_eq_false (by omega)
  have hlt : x.s.nx < x.s.adds.length := by omega
  have hax : x.s.adds[x.s.nx]? = some (fAdd x.s) := by unfold fAdd; rw [List.getD_eq_getElem?_getD, gee hlt]; rfl
  obtain ⟨e0, e1⟩ := add_ld hz hax
  rw [b2, ifF, ho]
  have hg : (0 : Int) ≤ 0 ∧ (0 : Int) < Int.ofNat (x.s.adds.length - x.s.nx) := by rw [ofN]; omega
  simp only [↓bLS d1, ↓if_pos hg, ↓bLI e0, ↓bLI e1]
  have s1 := same_app M [AObj.cells [.int .i64 0, .int .u64 0] ⟨false, 0⟩]
  have g1 := cells_new M [.int .i64 0, .int .u64 0] 0
  obtain ⟨M1, w1, w2, w3, w4⟩ := g1.wr (o := 0) (vs := [.int .i64 (fAdd x.s).1, .int .u64 (fAdd x.s).2]) (by simp)
  have w2' : Cells M1 M.length [.int .i64 (fAdd x.s).1, .int .u64 (fAdd x.s).2] := by simpa [wrL] using w2
  have t1 : Same M M1 [] := (s1.trans w3).mono' (by simp)
  have hm1 := hm.same t1 (by simp) (by simp)
  have h1' := h.same t1 (by simp)
  obtain ⟨_, _, _, f3, f4, _⟩ := rf_ld h1'
  have v0 : M1.ld M.length 0 = some (.int .i64 (fAdd x.s).1) := w2'.ld 0
  have hrl := h.cs.lt
  have hml := hm.hd.lt
  have hpl := hm.cs.lt
  have hT : fT L x.s = 1 := by simp [fT, ho]
  simp only [↓bX w1]
  cases hr : x.s.rd with
  | false =>
    rw [hr] at f3
    have hw : fWon L x.s = false := by simp [fWon, hr]
    have hfs : fS L x.s = { x.s with rd := decide (inR L (fAdd x.s).1), seen := getI L (fAdd x.s).1 } := by unfold fS; rw [if_neg (by simp [ho]), if_neg (by simp [hr])]
    obtain ⟨M2, k1, k2, k3⟩ := rload_spec hm1 hst (fAdd x.s).1
    have h2' := h1'.same k3 (by simp; exact h1.1)
    obtain ⟨M3, y1, y2, y3⟩ := rf_wr h2' 4 (.int .u64 (getI L (fAdd x.s).1)) (by omega) (y := ⟨x.z, x.c, { x.s with seen := getI L (fAdd x.s).1 }⟩) rfl
    obtain ⟨M4, u1, u2, u3⟩ := rf_wr y2 3 (.bool (decide (inR L (fAdd x.s).1))) (by omega) (y := ⟨x.z, x.c, { x.s with rd := decide (inR L (fAdd x.s).1), seen := getI L (fAdd x.s).1 }⟩) rfl
    have t24 : Same M2 M4 [rb] := (y3.trans u3).mono (by simp)
    refine ⟨M4, x.c, ?_, by rw [hfs]; exact u2, ?_, ((t1.trans k3).trans t24).mono (by
      intro b hb; simp at hb ⊢; rcases hb with h | h <;> simp [h])⟩
    · rw [bLB f3, ifNF, bLI v0, bX k1, bT2, bG0, bI, bG1, bB, bX y1, bX u1]
      rfl
    · rw [hT, show fL L x.s = L by simp [fL, hw], show fW L x.s = 0 by simp [fW, hw]]
      exact k2.same t24 (by simp; exact Ne.symm h1.1) (fun b hb => by simp; exact fun e => h1.2 (e ▸ hb))
  | true =>
    rw [hr] at f3
    obtain ⟨M2, y1, y2, y3⟩ := rf_wr h1' 3 (.bool false) (by omega) (y := ⟨x.z, x.c, { x.s with rd := false }⟩) rfl
    obtain ⟨_, _, _, _, f4', _⟩ := rf_ld y2
    have w2'' := w2'.same y3 (by simp; omega)
    have z0 : M2.ld M.length 0 = some (.int .i64 (fAdd x.s).1) := w2''.ld 0
    have z1 : M2.ld M.length 1 = some (.int .u64 (fAdd x.s).2) := w2''.ld 1
    have hm2 := hm1.same y3 (by simp; exact Ne.symm h1.1) (fun b hb => by simp; exact fun e => h1.2 (e ▸ hb))
    obtain ⟨M3, k1, k2, k3⟩ := rcas_spec hm2 hst hwi (fAdd x.s).1 x.s.seen (IntKind.wrap .u64 (x.s.seen + (fAdd x.s).2))
    have y2' := y2.same k3 (by simp; exact ⟨h1.1, h1.2⟩)
    obtain ⟨q0, q1, q2, q3, q4, q5⟩ := rf_ld y2'
    have t3 : Same M M3 (rb :: mr :: blk p) := ((t1.trans y3).trans k3).mono (by simp)
    rw [bLB f3, ifNT, bX y1, bLI z0, bLI f4', bLI f4', bLI z1, bX k1, bB]
    have hwc : fWon L x.s = casB L (fAdd x.s).1 x.s.seen := by simp [fWon, ho, hr]
    cases hc : casB L (fAdd x.s).1 x.s.seen with
    | true =>
      have hfs : fS L x.s = { x.s with rd := false, nx := x.s.nx + 1 } := by unfold fS; rw [if_neg (by simp [ho]), if_pos hr, if_pos hc]
      obtain ⟨M4, u1, u2, u3⟩ := rf_wr y2' 1 (.slice (some ⟨x.z, x.s.nx * 2 + 2, none⟩) (x.s.adds.length - x.s.nx - 1) (if x.c = 2 then 2 else 0)) (by omega) (y := ⟨x.z, if x.c = 2 then 2 else 0, { x.s with rd := false, nx := x.s.nx + 1 }⟩) (by
        simp only [encRf, List.set_cons_succ, List.set_cons_zero]
        rw [show (x.s.nx + 1) * 2 = x.s.nx * 2 + 2 by omega, show x.s.adds.length - (x.s.nx + 1) = x.s.adds.length - x.s.nx - 1 by omega])
      have hg1 : (0 : Int) ≤ 1 ∧ (1 : Int) ≤ Int.ofNat (x.s.adds.length - x.s.nx) ∧ Int.ofNat (x.s.adds.length - x.s.nx) ≤ Int.ofNat (x.s.adds.length - x.s.nx) := by rw [ofN]; omega
      have ht : Int.toNat (Int.ofNat (x.s.adds.length - x.s.nx) - 1) = x.s.adds.length - x.s.nx - 1 := by rw [ofN]; omega
      refine ⟨M4, _, ?_, by rw [hfs]; exact u2, ?_, (t3.trans u3).mono (fun b hb => by
        rcases List.mem_append.1 hb with h | h
        · exact h
        · simp only [List.mem_singleton] at h; simp [h])⟩
      · rw [P72_31_eq, ifT]
        simp only [↓bLS q1, ↓if_pos hg1, Option.map_some, ht, ↓bX u1]
        rw [P72_34_eq]
        rfl
      · rw [hT, show fL L x.s = L.set (fAdd x.s).1.toNat (IntKind.wrap .u64 (x.s.seen + (fAdd x.s).2)) by simp [fL, hwc, hc], show fW L x.s = 1 by simp [fW, hwc, hc]]
        unfold casL at k2
        rw [hc, if_pos rfl, if_pos rfl] at k2
        exact k2.same u3 (by simp; exact Ne.symm h1.1) (fun b hb => by simp; exact fun e => h1.2 (e ▸ hb))
    | false =>
      have hfs : fS L x.s = { x.s with rd := false, lost := x.s.lost + 1 } := by unfold fS; rw [if_neg (by simp [ho]), if_pos hr, if_neg (by simp [hc])]
      obtain ⟨M4, u1, u2, u3⟩ := rf_wr y2' 5 (.int .i64 ((x.s.lost + 1 : Nat) : Int)) (by omega) (y := ⟨x.z, x.c, { x.s with rd := false, lost := x.s.lost + 1 }⟩) rfl
      have hwl : IntKind.wrap .i64 ((x.s.lost : Int) + 1) = ((x.s.lost + 1 : Nat) : Int) := by rw [w64 (by omega)]; rfl
      refine ⟨M4, x.c, ?_, by rw [hfs]; exact u2, ?_, (t3.trans u3).mono (fun b hb => by
        rcases List.mem_append.1 hb with h | h
        · exact h
        · simp only [List.mem_singleton] at h; simp [h])⟩
      · rw [P72_31_eq, ifF]
        simp only [↓bLI q5, hwl, ↓bX u1]
        rw [P72_34_eq]
        rfl
      · rw [hT, show fL L x.s = L by simp [fL, hwc, hc], show fW L x.s = 0 by simp [fW, hwc, hc]]
        unfold casL at k2
        rw [hc, if_neg (by simp), if_neg (by simp)] at k2
        exact k2.same u3 (by simp; exact Ne.symm h1.1) (fun b hb => by simp; exact fun e => h1.2 (e ▸ hb))
theorem E35 (c : Rec) (a b : Int) : enterF c a35 [.int .i64 a, .int .i64 b] [] = (if (decide (a < 0)) = true then some (.tuple #[.agg #[.int .i64 0, .int .i64 0, .int .i64 0, .bool false, .bool false, .int .u64 0, .int .i64 0, .int .i64 0], .bool false], ([AObj.cells [.int .i64 0, .int .i64 0, .int .i64 0, .bool false, .bool false, .int .u64 0, .int .i64 0, .int .i64 0] ⟨false, 1⟩] : AMem)) else (if (decide (a > 1048576)) = true then some (.tuple #[.agg #[.int .i64 0, .int .i64 0, .int .i64 0, .bool false, .bool false, .int .u64 0, .int .i64 0, .int .i64 0], .bool false], ([AObj.cells [.int .i64 0, .int .i64 0, .int .i64 0, .bool false, .bool false, .int .u64 0, .int .i64 0, .int .i64 0] ⟨false, 1⟩] : AMem)) else (if (decide (b < 1)) = true then some (.tuple #[.agg #[.int .i64 0, .int .i64 0, .int .i64 0, .bool false, .bool false, .int .u64 0, .int .i64 0, .int .i64 0], .bool false], ([AObj.cells [.int .i64 0, .int .i64 0, .int .i64 0, .bool false, .bool false, .int .u64 0, .int .i64 0, .int .i64 0] ⟨false, 1⟩] : AMem)) else (if (decide (b > 65536)) = true then some (.tuple #[.agg #[.int .i64 0, .int .i64 0, .int .i64 0, .bool false, .bool false, .int .u64 0, .int .i64 0, .int .i64 0], .bool false], ([AObj.cells [.int .i64 0, .int .i64 0, .int .i64 0, .bool false, .bool false, .int .u64 0, .int .i64 0, .int .i64 0] ⟨false, 1⟩] : AMem)) else some (.tuple #[.agg #[.int .i64 a, .int .i64 b, .int .i64 0, .bool false, .bool false, .int .u64 0, .int .i64 0, .int .i64 0], .bool true], ([AObj.cells [.int .i64 a, .int .i64 b, .int .i64 0, .bool false, .bool false, .int .u64 0, .int .i64 0, .int .i64 0] ⟨false, 1⟩] : AMem)))))) := by kernel_rfl
def s46_22 (a : AMem) : List Value := jk 110 []
noncomputable def F46_22 (a b : ACode) (c : Rec) := fun d => code c a (seqK (code c (.seq (.ops o46_27) (.seq (.draw [] 0 o46_29 []) (.seq (.seq (.ops o46_32) (.cond (.tmp 87) (.seq (.ops o46_35) (.seq (.ops o46_37) (.ops o46_38))) (.ops o46_39))) (.clear zl43 b)))) (retK [.tmp 4])) (retK [.tmp 4])) (s46_22 d) d

noncomputable def P46_22 := hid (F46_22 c46_22 c46_40)
def s46_40 (a : AMem) : List Value := jk 110 []
noncomputable def F46_40 (a : ACode) (b : Rec) := fun c => code b a (retK [.tmp 4]) (s46_40 c) c

noncomputable def P46_40 := hid (F46_40 c46_40)
theorem QP46_22_eq (d : Rec) (c : ACode) (a : Rec → AMem → Res) (b : Eq a fun d e => code d (.seq (.ops o46_23) (.ret)) (seqK (code d (.seq (.ops o46_27) (.seq (.draw [] 0 o46_29 []) (.seq (.seq (.ops o46_32) (.cond (.tmp 87) (.seq (.ops o46_35) (.seq (.ops o46_37) (.ops o46_38))) (.ops o46_39))) (.clear zl43 c)))) (retK [.tmp 4])) (retK [.tmp 4])) (s46_22 e) e) (e : AMem) : a d e = some (.bool true, e) := by
  subst b; kernel_rfl
abbrev P46_22_eq (L : Rec) := QP46_22_eq L _ P46_22 (hE _)
theorem QP46_40_eq (c : Rec) (a : Rec → AMem → Res) (b : Eq a fun c d => code c (.seq (.ops o46_41) (.ret)) (retK [.tmp 4]) (s46_40 d) d) (d : AMem) : a c d = some (.bool true, d) := by
  subst b; kernel_rfl
abbrev P46_40_eq (L : Rec) := QP46_40_eq L P46_40 (hE _)
theorem QE46 (a6 : Rec) (f b : ACode) (g) (k : g = F46_22 f b) (c) (l : c = F46_40 b) (a a0 : Option Addr) (a7 : AMem) : enterF a6 ⟨110, [.tmp 4], .seq (.ops o46_1) (.seq (.seq (.ops o46_4) (.cond (.tmp 26) (.seq (.ops o46_7) (.ret)) (.skip))) (.seq (.seq (.ops o46_12) (.cond (.tmp 31) (.seq (.ops o46_15) (.seq (.ops o46_17) (.seq (.draw [] 0 o46_19 []) (.seq (.ops o46_21) (.clear zl43 f))))) (.skip))) (.seq (.ops o46_27) (.seq (.draw [] 0 o46_29 []) (.seq (.seq (.ops o46_32) (.cond (.tmp 87) (.seq (.ops o46_35) (.seq (.ops o46_37) (.ops o46_38))) (.ops o46_39))) (.clear zl43 b))))))⟩ [.pointer a, .pointer a0] a7 = (match a with | some G => (Option.bind (intOf? .i64 (a7.ld G.block (G.off + 1))) fun a1 => (if (a1 == 0) = true then some (.bool false, a7) else (match a with | some H => (Option.bind (boolOf? (a7.ld H.block (H.off + 4))) fun a2 => (if a2 = true then some (.bool false, a7) else (match a0 with | some I => (Option.bind (sliceOf? (a7.ld I.block I.off)) fun a3 => (if ((Int.ofNat a3.2.1) == 0) = true then some (.bool false, a7) else (match a with | some J => (Option.bind (boolOf? (a7.ld J.block (J.off + 3))) fun a4 => (if (!a4) = true then (Option.bind (a6.call 75 [.pointer a0, .int .i64 0] a7) fun K => (Option.bind (tupOf? 2 K.1) fun m => (Option.bind (m[0]?) fun L => (Option.bind (intOf? .u64 (some L)) fun M => (Option.bind (m[1]?) fun N => (Option.bind (boolOf? (some N)) fun a5 => (match a with | some o => (Option.bind (K.2.wr o.block (o.off + 5) [.int .u64 M]) fun n => (match a with | some p => (Option.bind (intOf? .u64 (n.ld p.block (p.off + 5))) fun O => (match a with | some q => (Option.bind (intOf? .i64 (n.ld q.block q.off)) fun P => (match a with | some r => (Option.bind (n.wr r.block (r.off + 3) [.bool (decide (O < (IntKind.wrap .u64 P)))]) fun s => (match a with | some t => (Option.bind (boolOf? (s.ld t.block (t.off + 3))) fun Q => (match a with | some u => (Option.bind (s.wr u.block (u.off + 4) [.bool (!Q)]) fun R => g a6 R) | none => none)) | none => none)) | none => none)) | none => none)) | none => none)) | none => none))))))) else (match a with | some v => (Option.bind (a7.wr v.block (v.off + 3) [.bool false]) fun d => (match a with | some w => (Option.bind (intOf? .i64 (d.ld w.block w.off)) fun h => (match a with | some x => (Option.bind (intOf? .u64 (d.ld x.block (x.off + 5))) fun i => (match a with | some y => (Option.bind (intOf? .i64 (d.ld y.block (y.off + 1))) fun j => (match a with | some z => (Option.bind (intOf? .u64 (d.ld z.block (z.off + 5))) fun S => (Option.bind (a6.call 76 [.pointer a0, .int .i64 0, .int .u64 S, .int .u64 (IntKind.wrap .u64 (if (IntKind.wrap .i64 ((IntKind.wrap .i64 i) + j)) < h then (IntKind.wrap .i64 ((IntKind.wrap .i64 i) + j)) else h))] d) fun e => (Option.bind (boolOf? (some e.1)) fun T => (if T = true then (match a with | some A => (Option.bind (intOf? .u64 (e.2.ld A.block (A.off + 5))) fun U => (match a with | some B => (Option.bind (e.2.wr B.block (B.off + 6) [.int .i64 (IntKind.wrap .i64 U)]) fun V => (match a with | some C => (Option.bind (V.wr C.block (C.off + 7) [.int .i64 (if (IntKind.wrap .i64 ((IntKind.wrap .i64 i) + j)) < h then (IntKind.wrap .i64 ((IntKind.wrap .i64 i) + j)) else h)]) fun W => (match a with | some D => (Option.bind (W.wr D.block (D.off + 4) [.bool true]) fun X => c a6 X) | none => none)) | none => none)) | none => none)) | none => none) else (match a with | some E => (Option.bind (intOf? .i64 (e.2.ld E.block (E.off + 2))) fun Y => (match a with | some F => (Option.bind (e.2.wr F.block (F.off + 2) [.int .i64 (IntKind.wrap .i64 (Y + 1))]) fun Z => c a6 Z) | none => none)) | none => none))))) | none => none)) | none => none)) | none => none)) | none => none)) | none => none))) | none => none))) | none => none))) | none => none))) | none => none) := by
  subst k; subst l; kernel_rfl
abbrev E46 (L : Rec) (x0 x1 : Option Addr) (M : AMem) := (Eq.refl (enterF L a46 [.pointer x0, .pointer x1] M)).trans (QE46 L _ _ P46_22 (hE _) P46_40 (hE _) x0 x1 M)
end Go.Proofs.YtbclhglmdhojdaaGreat
namespace Go.Proofs.YtbclhglmdhojdaaGreat.Bt
open Go Go.Ax
theorem rnewc_spec {all size : Int} (h : CFit all size) : ∃ M', LL.call 35 [.int .i64 all, .int .i64 size] [] = some (.tuple #[.agg (encR all size .init).toArray, .bool true], M') := by
  rw [L_call35, E35]
  have := h.a0; have := h.a1; have := h.s0; have := h.s1
  simp only [show ¬ all < 0 by omega, show ¬ all > 1048576 by omega, show ¬ size < 1 by omega, show ¬ size > 65536 by omega, decide_false, Bool.false_eq_true, if_false]
  exact ⟨_, rfl⟩
theorem rstep_spec {all size : Int} (hf : CFit all size) {s : CS} (hk : s.ok all) (hp : s.ph < 2) {M : AMem} {c o : Nat} {A B : List Value} {rb : Nat} {p : Option Addr} {pc st wi : Nat} {L : List Int} (hL : L ≠ []) (h : Mid M c o A (encR all size s) B) (hm : IsRef M rb p pc L st wi)
    (hst : st < 1000000000) (hwi : wi < 1000000000) (hb : c ≠ rb) (ha : c ∉ blk p) :
    ∃ M' wi', LL.call 46 [.pointer (some ⟨c, o, none⟩), pt rb] M = some (.bool true, M') ∧ Mid M' c o A (encR all size (stepS all size (getI L 0) s)) B ∧
      IsRef M' rb p pc (stepL all size L s) (st + 1) wi' ∧ wi' ≤ wi + 1 ∧ Same M M' (c :: rb :: blk p) := by
  rw [L_call46, E46]
  have := hf.a0; have := hf.a1; have := hf.s0; have := hf.s1; have := hk.lost
  have l1 : M.ld c (o + 1) = some (.int .i64 size) := h.ld 1 rfl
  have l4 : M.ld c (o + 4) = some (.bool (decide (1 < s.ph))) := h.ld 4 rfl
  have l3 : M.ld c (o + 3) = some (.bool (decide (s.ph = 1))) := h.ld 3 rfl
  have z1 : (size == 0) = false := by simp; omega
  have m0 : M.ld rb 0 = some (.slice p L.length pc) := hm.hd.ld 0
  have z2 : (Int.ofNat L.length == 0) = false := by
    have := List.length_pos_iff.2 hL
    rw [ofN]; exact beq_eq_false_iff_ne.2 (by omega)
  simp only [l1, intOf_int, Option.bind_some, z1, Bool.false_eq_true, if_false, l4, boolOf_bool, show ¬ 1 < s.ph by omega, decide_false, m0, sliceOf_slice, z2, l3]
  have hne : ∀ x ∈ blk p, x ∉ [c] := fun x hx hc => by simp at hc; subst hc; exact ha hx
  by_cases c0 : s.ph = 0
  · have c1 : ¬ s.ph = 1 := by omega
    obtain ⟨M1, g1, g2, g3⟩ := rload_spec hm (by omega) 0
    have k1 := h.same g3 (by simp [hb])
    unfold stepL
    rw [if_neg c1]
    generalize getI L 0 = cur at g1 ⊢
    obtain ⟨M2, w1, w2, w3⟩ := k1.wr 5 [.int .u64 cur] (by simp [encR])
    have a5 : M2.ld c (o + 5) = some (.int .u64 cur) := w2.ld 5 rfl
    have a0 : M2.ld c o = some (.int .i64 all) := w2.ld0 rfl
    have hw : IntKind.wrap .u64 all = all := wu64 (by omega)
    obtain ⟨M3, x1, x2, x3⟩ := w2.wr 3 [.bool (decide (cur < all))] (by simp [encR, wrL])
    have a3 : M3.ld c (o + 3) = some (.bool (decide (cur < all))) := x2.ld 3 rfl
    obtain ⟨M4, y1, y2, y3⟩ := x2.wr 4 [.bool (!decide (cur < all))] (by simp [encR, wrL])
    simp only [c1, decide_false, Bool.not_false, if_true, g1, Option.bind_some, tup2, get0, get1, intOf_int, boolOf_bool, w1, a5, a0, hw, x1, a3, y1, P46_22_eq]
    have f := ((g2.same w3 (by simp; omega) hne).same x3 (by simp; omega) hne).same y3 (by simp; omega) hne
    refine ⟨M4, wi, rfl, ?_, f, by omega, ((g3.trans w3).trans (x3.trans y3)).mono (by simp)⟩
    unfold stepS
    rw [if_pos c0]
    by_cases cc : cur ≥ all
    · simpa [encR, wrL, c0, cc, show ¬ cur < all by omega] using y2
    · simpa [encR, wrL, c0, cc, show cur < all by omega] using y2
  · have c1 : s.ph = 1 := by omega
    have := hk.seen c1
    obtain ⟨M1, w1, w2, w3⟩ := h.wr 3 [.bool false] (by simp [encR])
    have a0 : M1.ld c o = some (.int .i64 all) := w2.ld0 rfl
    have a5 : M1.ld c (o + 5) = some (.int .u64 s.seen) := w2.ld 5 rfl
    have a1 : M1.ld c (o + 1) = some (.int .i64 size) := w2.ld 1 rfl
    have v1 : IntKind.wrap .i64 s.seen = s.seen := w64 (by omega)
    have v2 : IntKind.wrap .i64 (s.seen + size) = s.seen + size := w64 (by omega)
    have v3 : (if s.seen + size < all then s.seen + size else all) = s.seen + min size (all - s.seen) := by split <;> omega
    have v4 : IntKind.wrap .u64 (s.seen + min size (all - s.seen)) = s.seen + min size (all - s.seen) := wu64 (by omega)
    have v5 : IntKind.wrap .i64 ((s.lost : Int) + 1) = ((s.lost + 1 : Nat) : Int) := by rw [w64 (by omega)]; rfl
    have f0 := hm.same w3 (by simp; omega) hne
    obtain ⟨M2, g1, g2, g3⟩ := rcas_spec f0 (by omega) (by omega) 0 s.seen (s.seen + min size (all - s.seen))
    have hc := cas0 hL s.seen
    have k1 := w2.same g3 (by simp; exact ⟨hb, ha⟩)
    have b5 : M2.ld c (o + 5) = some (.int .u64 s.seen) := k1.ld 5 rfl
    have b2 : M2.ld c (o + 2) = some (.int .i64 s.lost) := k1.ld 2 rfl
    simp only [c1, decide_true, Bool.not_true, Bool.false_eq_true, if_false, w1, a0, a5, a1, intOf_int, Option.bind_some, v1, v2, v3, v4, g1, boolOf_bool, hc]
    unfold stepS stepL
    rw [if_pos c1]
    simp only [c1, show ¬ (1 = 0) by omega, if_false, if_true]
    by_cases e : getI L 0 = s.seen
    · obtain ⟨M3, x1, x2, x3⟩ := k1.wr 6 [.int .i64 s.seen] (by simp [encR, wrL])
      obtain ⟨M4, y1, y2, y3⟩ := x2.wr 7 [.int .i64 (s.seen + min size (all - s.seen))] (by simp [encR, wrL])
      obtain ⟨M5, z1, z2, z3⟩ := y2.wr 4 [.bool true] (by simp [encR, wrL])
      have f := ((g2.same x3 (by simp; omega) hne).same y3 (by simp; omega) hne).same z3 (by simp; omega) hne
      simp only [e, decide_true, if_true, b5, intOf_int, Option.bind_some, v1, x1, y1, z1, P46_40_eq]
      refine ⟨M5, _, rfl, ?_, f, by split <;> omega, (((w3.trans g3).trans (x3.trans y3)).trans z3).mono (by simp; intro x hx; rcases hx with hx | hx <;> simp [hx])⟩
      simpa [encR, wrL, c1] using z2
    · obtain ⟨M3, x1, x2, x3⟩ := k1.wr 2 [.int .i64 ((s.lost + 1 : Nat) : Int)] (by simp [encR, wrL])
      have f := g2.same x3 (by simp; omega) hne
      simp only [e, decide_false, Bool.false_eq_true, if_false, b2, intOf_int, Option.bind_some, v5, x1, P46_40_eq]
      refine ⟨M3, _, rfl, ?_, f, by split <;> omega, ((w3.trans g3).trans x3).mono (by simp; intro x hx; rcases hx with hx | hx <;> simp [hx])⟩
      simpa [encR, wrL, c1] using x2
end Go.Proofs.YtbclhglmdhojdaaGreat.Bt
namespace Go.Proofs.YtbclhglmdhojdaaGreat
open Go Go.Ax
def s5_8 (c : Option Addr) (a b : Nat) (d e f g : Int) (h : AMem) : List Value := .slice c a b :: .int .i64 d :: .int .i64 e :: jk 4 (.int .i64 f :: .int .i64 g :: jk 22 [])
noncomputable def F5_8 (b a : ACode) (j : Rec) := fun e c d f g h i k => j.loop b (blockK 0 (seqK (code j (.clear zl12 a) (retK [.tmp 6])) (retK [.tmp 6]))) (s5_8 e c d f g h i k) k

noncomputable def P5_8 := hid (F5_8 b5_8 c5_19)
def s5_18 (c : Option Addr) (a b : Nat) (d e f g : Int) (h : AMem) : List Value := .slice c a b :: .int .i64 d :: .int .i64 e :: jk 4 (.int .i64 f :: .int .i64 g :: jk 22 [])
noncomputable def F5_18 (c a b : ACode) (k : Rec) := fun f d e g h i j l => code k a (postK zl11 (loopK k c (blockK 0 (seqK (code k (.clear zl12 b) (retK [.tmp 6])) (retK [.tmp 6]))))) (s5_18 f d e g h i j l) l

noncomputable def P5_18 := hid (F5_18 b5_8 c5_18 c5_19)
def s5_19 (c : Option Addr) (a b : Nat) (d e f : Int) (g : AMem) : List Value := .slice c a b :: .int .i64 d :: .int .i64 e :: jk 4 (.int .i64 f :: jk 23 [])
noncomputable def F5_19 (a : ACode) (h : Rec) := fun d b c e f g i => code h a (retK [.tmp 6]) (s5_19 d b c e f g i) i

noncomputable def P5_19 := hid (F5_19 c5_19)
theorem QP5_8_eq (t : Rec) (b c a : ACode) (s : HB t b (.post (.seq (.seq (.ops o5_11) (.cond (.tmp 12) (.skip) (.exit 0))) (.seq (.block 1 (.ops o5_17)) (.clear zl11 c))) zl11)) (i) (j : i = F5_8 b a) (d) (g : d = F5_18 b c a) (e) (h : e = F5_19 a) (n : Option Addr) (f k : Nat) (o p q l : Int) (u : AMem) : i t n f k o p q l u = (if (decide (l < (Int.ofNat f))) = true then (match n with | some m => (if (0 : Int) ≤ l ∧ l < (Int.ofNat f) then (Option.bind (sliceOf? (u.ld m.block (m.off + ((Int.toNat l) * 1)))) fun r => d t n f k o p (IntKind.wrap .i64 (q + (Int.ofNat r.2.1))) l u) else none) | none => none) else e t n f k o p q u) := by
  subst j; subst g; subst h; exact (s _ _ _).trans (by kernel_rfl)
abbrev P5_8_eq (L : Rec) (hL : HL L) := QP5_8_eq L _ _ _ (hL b5_8) P5_8 (hE _) P5_18 (hE _) P5_19 (hE _)
theorem QP5_18_eq (n : Rec) (f a : ACode) (g) (h : g = F5_8 f a) (b : Rec → (Option Addr) → Nat → Nat → Int → Int → Int → Int → AMem → Res) (c : Eq b fun n i d e j k l m o => code n (.ops o5_18) (postK zl11 (loopK n f (blockK 0 (seqK (code n (.clear zl12 a) (retK [.tmp 6])) (retK [.tmp 6]))))) (s5_18 i d e j k l m o) o) (i : Option Addr) (d e : Nat) (j k l m : Int) (o : AMem) : b n i d e j k l m o = g n i d e j k l (IntKind.wrap .i64 (m + 1)) o := by
  subst h; subst c; kernel_rfl
abbrev P5_18_eq (L : Rec) := QP5_18_eq L _ _ P5_8 (hE _) P5_18 (hE _)
theorem QP5_19_eq (i : Rec) (a : Rec → (Option Addr) → Nat → Nat → Int → Int → Int → AMem → Res) (b : Eq a fun i h c d e f g j => code i (.seq (.ops o5_20) (.ret)) (retK [.tmp 6]) (s5_19 h c d e f g j) j) (h : Option Addr) (c d : Nat) (e f g : Int) (j : AMem) : a i h c d e f g j = (if (decide ((Int.ofNat c) ≤ e)) = true then some (.bool (decide (g ≤ f)), j) else some (.bool false, j)) := by
  subst b; kernel_rfl
abbrev P5_19_eq (L : Rec) := QP5_19_eq L P5_19 (hE _)
theorem QE5 (j : Rec) (b a : ACode) (c) (d : c = F5_8 b a) (g : Option Addr) (e f : Nat) (h i : Int) (k : AMem) : enterF j ⟨31, [.tmp 6], .seq (.ops o5_1) (.seq (.ops o5_3) (.seq (.seq (.ops o5_6) (.block 0 (.clear zl11 (.loop b)))) (.clear zl12 a)))⟩ [.slice g e f, .int .i64 h, .int .i64 i] k = c j g e f h i 0 0 k := by
  subst d; kernel_rfl
abbrev E5 (L : Rec) (x0 : Option Addr) (x0n x0c : Nat) (x1 x2 : Int) (M : AMem) := (Eq.refl (enterF L a5 [.slice x0 x0n x0c, .int .i64 x1, .int .i64 x2] M)).trans (QE5 L _ _ P5_8 (hE _) x0 x0n x0c x1 x2 M)
def s12_14 (c : Option Addr) (a b d : Nat) (e : Int) (f : AMem) : List Value := jk 3 (.slice c a b :: .pointer (some ⟨d, 0, none⟩) :: jk 4 (.int .i64 e :: jk 64 []))
noncomputable def F12_14 (a b : ACode) (h : Rec) := fun e c d f g i => h.loop a (blockK 0 (seqK (code h (.clear zl20 b) (retK [.tmp 8])) (retK [.tmp 8]))) (s12_14 e c d f g i) i

noncomputable def P12_14 := hid (F12_14 b12_14 c12_46)
def s12_26 (d : Option Addr) (a b e : Nat) (f c : Int) (g : AMem) : List Value := jk 3 (.slice d a b :: .pointer (some ⟨e, 0, none⟩) :: jk 4 (.int .i64 f :: .int .i64 c :: jk 63 []))
noncomputable def F12_26 (a c d b : ACode) (k : Rec) := fun h e f i j g l => k.loop c (blockK 2 (blockK 1 (seqK (code k (.clear zl19 d) (postK zl19 (loopK k a (blockK 0 (seqK (code k (.clear zl20 b) (retK [.tmp 8])) (retK [.tmp 8])))))) (postK zl19 (loopK k a (blockK 0 (seqK (code k (.clear zl20 b) (retK [.tmp 8])) (retK [.tmp 8])))))))) (s12_26 h e f i j g l) l

noncomputable def P12_26 := hid (F12_26 b12_14 b12_26 c12_45 c12_46)
def s12_46 (a : AMem) : List Value := jk 74 []
noncomputable def F12_46 (a : ACode) (b : Rec) := fun c => code b a (retK [.tmp 8]) (s12_46 c) c

noncomputable def P12_46 := hid (F12_46 c12_46)
def s12_44 (d : Option Addr) (a b e : Nat) (f c : Int) (g : AMem) : List Value := jk 3 (.slice d a b :: .pointer (some ⟨e, 0, none⟩) :: jk 4 (.int .i64 f :: .int .i64 c :: jk 63 []))
noncomputable def F12_44 (a c d e b : ACode) (l : Rec) := fun i f g j k h m => code l d (postK zl18 (loopK l c (blockK 2 (blockK 1 (seqK (code l (.clear zl19 e) (postK zl19 (loopK l a (blockK 0 (seqK (code l (.clear zl20 b) (retK [.tmp 8])) (retK [.tmp 8])))))) (postK zl19 (loopK l a (blockK 0 (seqK (code l (.clear zl20 b) (retK [.tmp 8])) (retK [.tmp 8])))))))))) (s12_44 i f g j k h m) m

noncomputable def P12_44 := hid (F12_44 b12_14 b12_26 c12_44 c12_45 c12_46)
def s12_45 (c : Option Addr) (a b d : Nat) (e : Int) (f : AMem) : List Value := jk 3 (.slice c a b :: .pointer (some ⟨d, 0, none⟩) :: jk 4 (.int .i64 e :: jk 64 []))
noncomputable def F12_45 (a b c : ACode) (i : Rec) := fun f d e g h j => code i b (postK zl19 (loopK i a (blockK 0 (seqK (code i (.clear zl20 c) (retK [.tmp 8])) (retK [.tmp 8]))))) (s12_45 f d e g h j) j

noncomputable def P12_45 := hid (F12_45 b12_14 c12_45 c12_46)
theorem QP12_14_eq (q : Rec) (a c d b : ACode) (p : HB q a (.post (.seq (.seq (.ops o12_17) (.cond (.tmp 39) (.skip) (.exit 0))) (.seq (.block 1 (.seq (.ops o12_24) (.block 2 (.clear zl18 (.loop c))))) (.clear zl19 d))) zl19)) (e) (h : e = F12_14 a b) (f) (i : f = F12_26 a c d b) (g) (j : g = F12_46 b) (n : Option Addr) (k l o : Nat) (m : Int) (r : AMem) : e q n k l o m r = (if (decide (m < (Int.ofNat k))) = true then f q n k l o m 0 r else g q r) := by
  subst h; subst i; subst j; exact (p _ _ _).trans (by kernel_rfl)
abbrev P12_14_eq (L : Rec) (hL : HL L) := QP12_14_eq L _ _ _ _ (hL b12_14) P12_14 (hE _) P12_26 (hE _) P12_46 (hE _)
theorem QP12_26_eq (K : Rec) (b c h d e : ACode) (J : HB K c (.post (.seq (.seq (.ops o12_29) (.cond (.tmp 48) (.skip) (.exit 2))) (.seq (.block 3 (.seq (.ops o12_36) (.seq (.ops o12_38) (.cond (.tmp 73) (.seq (.ops o12_41) (.ret)) (.skip))))) (.clear zl18 h))) zl18)) (i) (l : i = F12_26 b c d e) (j) (m : j = F12_44 b c h d e) (k) (n : k = F12_45 b d e) (r : Option Addr) (o q D : Nat) (p f : Int) (L : AMem) : i K r o q D p f L = (match r with | some s => (if (0 : Int) ≤ p ∧ p < (Int.ofNat o) then (Option.bind (sliceOf? (L.ld s.block (s.off + ((Int.toNat p) * 1)))) fun E => (if (decide (f < (Int.ofNat E.2.1))) = true then (match r with | some t => (if (0 : Int) ≤ p ∧ p < (Int.ofNat o) then (Option.bind (sliceOf? (L.ld t.block (t.off + ((Int.toNat p) * 1)))) fun u => (match u.1 with | some g => (if (0 : Int) ≤ f ∧ f < (Int.ofNat u.2.1) then (Option.bind (intOf? .i64 (L.ld g.block (g.off + ((Int.toNat f) * 4)))) fun F => (Option.bind (intOf? .i64 (L.ld g.block ((g.off + ((Int.toNat f) * 4)) + 1))) fun G => (Option.bind (intOf? .i64 (L.ld g.block ((g.off + ((Int.toNat f) * 4)) + 2))) fun H => (Option.bind (intOf? .i64 (L.ld g.block ((g.off + ((Int.toNat f) * 4)) + 3))) fun I => (Option.bind (AMem.wr (L ++ [AObj.cells [.int .i64 0, .int .i64 0, .int .i64 0, .int .i64 0] ⟨false, 0⟩]) L.length 0 [.int .i64 F, .int .i64 G, .int .i64 H, .int .i64 I]) fun a => (Option.bind (intOf? .i64 (a.ld L.length 0)) fun v => (if (decide (v < 0)) = true then some (.bool false, a) else (Option.bind (intOf? .i64 (a.ld L.length 0)) fun w => (Option.bind (intOf? .i64 (a.ld D 0)) fun x => (if (decide (w ≥ x)) = true then some (.bool false, a) else (Option.bind (intOf? .i64 (a.ld L.length 1)) fun y => (Option.bind (intOf? .i64 (a.ld L.length 2)) fun z => (Option.bind (intOf? .i64 (a.ld L.length 3)) fun A => (Option.bind (K.call 31 [.agg #[.int .i64 y, .int .i64 z, .int .i64 A]] []) fun B => (Option.bind (boolOf? (some B.1)) fun C => (if (!C) = true then some (.bool false, a) else j K r o q D p f a)))))))))))))))) else none) | none => none)) else none) | none => none) else k K r o q D p L)) else none) | none => none) := by
  subst l; subst m; subst n; exact (J _ _ _).trans (by kernel_rfl)
abbrev P12_26_eq (L : Rec) (hL : HL L) := QP12_26_eq L _ _ _ _ _ (hL b12_26) P12_26 (hE _) P12_44 (hE _) P12_45 (hE _)
theorem QP12_46_eq (c : Rec) (a : Rec → AMem → Res) (b : Eq a fun c d => code c (.seq (.ops o12_47) (.ret)) (retK [.tmp 8]) (s12_46 d) d) (d : AMem) : a c d = some (.bool true, d) := by
  subst b; kernel_rfl
abbrev P12_46_eq (L : Rec) := QP12_46_eq L P12_46 (hE _)
theorem QP12_44_eq (o : Rec) (a c d b : ACode) (e) (g : e = F12_26 a c d b) (f : Rec → (Option Addr) → Nat → Nat → Nat → Int → Int → AMem → Res) (h : Eq f fun o l i j m n k p => code o (.ops o12_44) (postK zl18 (loopK o c (blockK 2 (blockK 1 (seqK (code o (.clear zl19 d) (postK zl19 (loopK o a (blockK 0 (seqK (code o (.clear zl20 b) (retK [.tmp 8])) (retK [.tmp 8])))))) (postK zl19 (loopK o a (blockK 0 (seqK (code o (.clear zl20 b) (retK [.tmp 8])) (retK [.tmp 8])))))))))) (s12_44 l i j m n k p) p) (l : Option Addr) (i j m : Nat) (n k : Int) (p : AMem) : f o l i j m n k p = e o l i j m n (IntKind.wrap .i64 (k + 1)) p := by
  subst g; subst h; kernel_rfl
abbrev P12_44_eq (L : Rec) := QP12_44_eq L _ _ _ _ P12_26 (hE _) P12_44 (hE _)
theorem QP12_45_eq (l : Rec) (a b : ACode) (c) (e : c = F12_14 a b) (d : Rec → (Option Addr) → Nat → Nat → Nat → Int → AMem → Res) (f : Eq d fun l i g h j k m => code l (.ops o12_45) (postK zl19 (loopK l a (blockK 0 (seqK (code l (.clear zl20 b) (retK [.tmp 8])) (retK [.tmp 8]))))) (s12_45 i g h j k m) m) (i : Option Addr) (g h j : Nat) (k : Int) (m : AMem) : d l i g h j k m = c l i g h j (IntKind.wrap .i64 (k + 1)) m := by
  subst e; subst f; kernel_rfl
abbrev P12_45_eq (L : Rec) := QP12_45_eq L _ _ P12_14 (hE _) P12_45 (hE _)
theorem QE12 (p : Rec) (c d : ACode) (e) (f : e = F12_14 c d) (a b i j : Int) (o : Option Addr) (g h : Nat) (q : AMem) : enterF p ⟨74, [.tmp 8], .seq (.ops o12_1) (.seq (.seq (.ops o12_4) (.cond (.tmp 35) (.seq (.ops o12_7) (.ret)) (.skip))) (.seq (.seq (.ops o12_12) (.block 0 (.clear zl19 (.loop c)))) (.clear zl20 d)))⟩ [.agg #[.int .i64 a, .int .i64 b], .int .i64 i, .int .i64 j, .slice o g h] q = (Option.bind (intOf? .i64 (AMem.ld (q ++ [AObj.cells [.int .i64 a, .int .i64 b] ⟨false, 0⟩]) q.length 0)) fun k => (Option.bind (intOf? .i64 (AMem.ld (q ++ [AObj.cells [.int .i64 a, .int .i64 b] ⟨false, 0⟩]) q.length 1)) fun l => (Option.bind (p.call 4 [.agg #[.int .i64 k, .int .i64 l]] []) fun m => (Option.bind (boolOf? (some m.1)) fun n => (if (!n) = true then some (.bool false, (q ++ [AObj.cells [.int .i64 a, .int .i64 b] ⟨false, 0⟩])) else (if (decide ((Int.ofNat g) > 1048576)) = true then some (.bool false, (q ++ [AObj.cells [.int .i64 a, .int .i64 b] ⟨false, 0⟩])) else (if (decide (i < 1)) = true then some (.bool false, (q ++ [AObj.cells [.int .i64 a, .int .i64 b] ⟨false, 0⟩])) else (if (decide (i > 65536)) = true then some (.bool false, (q ++ [AObj.cells [.int .i64 a, .int .i64 b] ⟨false, 0⟩])) else (if (decide (j < 1)) = true then some (.bool false, (q ++ [AObj.cells [.int .i64 a, .int .i64 b] ⟨false, 0⟩])) else (if (decide (j > 4096)) = true then some (.bool false, (q ++ [AObj.cells [.int .i64 a, .int .i64 b] ⟨false, 0⟩])) else e p o g h q.length 0 (q ++ [AObj.cells [.int .i64 a, .int .i64 b] ⟨false, 0⟩]))))))))))) := by
  subst f; kernel_rfl
abbrev E12 (L : Rec) (x0_0 x0_1 x1 x2 : Int) (x3 : Option Addr) (x3n x3c : Nat) (M : AMem) := (Eq.refl (enterF L a12 [.agg #[.int .i64 x0_0, .int .i64 x0_1], .int .i64 x1, .int .i64 x2, .slice x3 x3n x3c] M)).trans (QE12 L _ _ P12_14 (hE _) x0_0 x0_1 x1 x2 x3 x3n x3c M)
theorem E14 (aT : Rec) (a b aI aP : Int) (aQ : Option Addr) (s t : Nat) (aU : AMem) : enterF aT a14 [.agg #[.int .i64 a, .int .i64 b], .int .i64 aI, .int .i64 aP, .slice aQ s t] aU = (Option.bind (intOf? .i64 (AMem.ld ((aU ++ [AObj.cells [.int .i64 a, .int .i64 b] ⟨false, 0⟩]) ++ [AObj.cells [.int .i64 0, .int .i64 0, .int .i64 0, .slice none 0 0, .int .i64 0, .int .i64 0, .slice none 0 0, .int .i64 0, .int .i64 0, .int .i64 0, .slice none 0 0, .slice none 0 0, .bool false, .int .i64 0, .slice none 0 0, .int .i64 0, .slice none 0 0, .int .i64 0, .bool false, .int .u64 0, .int .i64 0, .int .i64 0, .int .i64 0, .int .i64 0, .bool false, .bool false, .int .u64 0, .int .i64 0, .int .i64 0, .bool false, .int .i64 0] ⟨false, 0⟩]) aU.length 0)) fun aJ => (Option.bind (intOf? .i64 (AMem.ld ((aU ++ [AObj.cells [.int .i64 a, .int .i64 b] ⟨false, 0⟩]) ++ [AObj.cells [.int .i64 0, .int .i64 0, .int .i64 0, .slice none 0 0, .int .i64 0, .int .i64 0, .slice none 0 0, .int .i64 0, .int .i64 0, .int .i64 0, .slice none 0 0, .slice none 0 0, .bool false, .int .i64 0, .slice none 0 0, .int .i64 0, .slice none 0 0, .int .i64 0, .bool false, .int .u64 0, .int .i64 0, .int .i64 0, .int .i64 0, .int .i64 0, .bool false, .bool false, .int .u64 0, .int .i64 0, .int .i64 0, .bool false, .int .i64 0] ⟨false, 0⟩]) aU.length 1)) fun aK => (Option.bind (aT.call 34 [.agg #[.int .i64 aJ, .int .i64 aK], .int .i64 aP] ((aU ++ [AObj.cells [.int .i64 a, .int .i64 b] ⟨false, 0⟩]) ++ [AObj.cells [.int .i64 0, .int .i64 0, .int .i64 0, .slice none 0 0, .int .i64 0, .int .i64 0, .slice none 0 0, .int .i64 0, .int .i64 0, .int .i64 0, .slice none 0 0, .slice none 0 0, .bool false, .int .i64 0, .slice none 0 0, .int .i64 0, .slice none 0 0, .int .i64 0, .bool false, .int .u64 0, .int .i64 0, .int .i64 0, .int .i64 0, .int .i64 0, .bool false, .bool false, .int .u64 0, .int .i64 0, .int .i64 0, .bool false, .int .i64 0] ⟨false, 0⟩])) fun g => (Option.bind (tupOf? 2 g.1) fun r => (Option.bind (r[0]?) fun aL => (Option.bind (aggOf? 4 aL) fun h => (Option.bind (intOf? .i64 (h[0]?)) fun aM => (Option.bind (intOf? .i64 (h[1]?)) fun aN => (Option.bind (intOf? .i64 (h[2]?)) fun aO => (Option.bind (sliceOf? (h[3]?)) fun i => (Option.bind (r[1]?) fun u => (Option.bind (boolOf? (some u)) fun aR => (Option.bind (AMem.wr (g.2 ++ [AObj.cells [.int .i64 0, .int .i64 0, .int .i64 0, .slice none 0 0] ⟨false, 0⟩]) g.2.length 0 [.int .i64 aM, .int .i64 aN, .int .i64 aO, .slice i.1 i.2.1 i.2.2]) fun f => (Option.bind (aT.call 35 [.int .i64 (Int.ofNat s), .int .i64 aI] []) fun v => (Option.bind (tupOf? 2 v.1) fun j => (Option.bind (j[0]?) fun w => (Option.bind (aggOf? 8 w) fun e => (Option.bind (intOf? .i64 (e[0]?)) fun x => (Option.bind (intOf? .i64 (e[1]?)) fun y => (Option.bind (intOf? .i64 (e[2]?)) fun z => (Option.bind (boolOf? (e[3]?)) fun A => (Option.bind (boolOf? (e[4]?)) fun B => (Option.bind (intOf? .u64 (e[5]?)) fun C => (Option.bind (intOf? .i64 (e[6]?)) fun D => (Option.bind (intOf? .i64 (e[7]?)) fun E => (Option.bind (j[1]?) fun F => (Option.bind (boolOf? (some F)) fun aS => (Option.bind (AMem.wr (f ++ [AObj.cells [.int .i64 0, .int .i64 0, .int .i64 0, .bool false, .bool false, .int .u64 0, .int .i64 0, .int .i64 0] ⟨false, 0⟩]) f.length 0 [.int .i64 x, .int .i64 y, .int .i64 z, .bool A, .bool B, .int .u64 C, .int .i64 D, .int .i64 E]) fun d => (Option.bind (intOf? .i64 (d.ld aU.length 0)) fun G => (Option.bind (intOf? .i64 (d.ld aU.length 1)) fun H => (Option.bind (intOf? .i64 (d.ld g.2.length 0)) fun I => (Option.bind (intOf? .i64 (d.ld g.2.length 1)) fun J => (Option.bind (intOf? .i64 (d.ld g.2.length 2)) fun K => (Option.bind (sliceOf? (d.ld g.2.length 3)) fun k => (Option.bind (intOf? .i64 (d.ld f.length 0)) fun L => (Option.bind (intOf? .i64 (d.ld f.length 1)) fun M => (Option.bind (intOf? .i64 (d.ld f.length 2)) fun N => (Option.bind (boolOf? (d.ld f.length 3)) fun O => (Option.bind (boolOf? (d.ld f.length 4)) fun P => (Option.bind (intOf? .u64 (d.ld f.length 5)) fun Q => (Option.bind (intOf? .i64 (d.ld f.length 6)) fun R => (Option.bind (intOf? .i64 (d.ld f.length 7)) fun S => (Option.bind (d.wr (List.length (aU ++ [AObj.cells [.int .i64 a, .int .i64 b] ⟨false, 0⟩])) 0 [.int .i64 G, .int .i64 H, .int .i64 aI, .slice aQ s t, .int .i64 0, .int .i64 0, .slice none 0 0, .int .i64 I, .int .i64 J, .int .i64 K, .slice k.1 k.2.1 k.2.2, .slice none 0 0, .bool false, .int .i64 0, .slice none 0 0, .int .i64 0, .slice none 0 0, .int .i64 0, .bool false, .int .u64 0, .int .i64 0, .int .i64 L, .int .i64 M, .int .i64 N, .bool O, .bool P, .int .u64 Q, .int .i64 R, .int .i64 S, .bool false, .int .i64 0]) fun c => (Option.bind (intOf? .i64 (c.ld (List.length (aU ++ [AObj.cells [.int .i64 a, .int .i64 b] ⟨false, 0⟩])) 0)) fun T => (Option.bind (intOf? .i64 (c.ld (List.length (aU ++ [AObj.cells [.int .i64 a, .int .i64 b] ⟨false, 0⟩])) 1)) fun U => (Option.bind (intOf? .i64 (c.ld (List.length (aU ++ [AObj.cells [.int .i64 a, .int .i64 b] ⟨false, 0⟩])) 2)) fun V => (Option.bind (sliceOf? (c.ld (List.length (aU ++ [AObj.cells [.int .i64 a, .int .i64 b] ⟨false, 0⟩])) 3)) fun l => (Option.bind (intOf? .i64 (c.ld (List.length (aU ++ [AObj.cells [.int .i64 a, .int .i64 b] ⟨false, 0⟩])) 4)) fun W => (Option.bind (intOf? .i64 (c.ld (List.length (aU ++ [AObj.cells [.int .i64 a, .int .i64 b] ⟨false, 0⟩])) 5)) fun X => (Option.bind (sliceOf? (c.ld (List.length (aU ++ [AObj.cells [.int .i64 a, .int .i64 b] ⟨false, 0⟩])) 6)) fun m => (Option.bind (intOf? .i64 (c.ld (List.length (aU ++ [AObj.cells [.int .i64 a, .int .i64 b] ⟨false, 0⟩])) 7)) fun Y => (Option.bind (intOf? .i64 (c.ld (List.length (aU ++ [AObj.cells [.int .i64 a, .int .i64 b] ⟨false, 0⟩])) 8)) fun Z => (Option.bind (intOf? .i64 (c.ld (List.length (aU ++ [AObj.cells [.int .i64 a, .int .i64 b] ⟨false, 0⟩])) 9)) fun a0 => (Option.bind (sliceOf? (c.ld (List.length (aU ++ [AObj.cells [.int .i64 a, .int .i64 b] ⟨false, 0⟩])) 10)) fun n => (Option.bind (sliceOf? (c.ld (List.length (aU ++ [AObj.cells [.int .i64 a, .int .i64 b] ⟨false, 0⟩])) 11)) fun o => (Option.bind (boolOf? (c.ld (List.length (aU ++ [AObj.cells [.int .i64 a, .int .i64 b] ⟨false, 0⟩])) 12)) fun a1 => (Option.bind (intOf? .i64 (c.ld (List.length (aU ++ [AObj.cells [.int .i64 a, .int .i64 b] ⟨false, 0⟩])) 13)) fun a2 => (Option.bind (sliceOf? (c.ld (List.length (aU ++ [AObj.cells [.int .i64 a, .int .i64 b] ⟨false, 0⟩])) 14)) fun p => (Option.bind (intOf? .i64 (c.ld (List.length (aU ++ [AObj.cells [.int .i64 a, .int .i64 b] ⟨false, 0⟩])) 15)) fun a3 => (Option.bind (sliceOf? (c.ld (List.length (aU ++ [AObj.cells [.int .i64 a, .int .i64 b] ⟨false, 0⟩])) 16)) fun q => (Option.bind (intOf? .i64 (c.ld (List.length (aU ++ [AObj.cells [.int .i64 a, .int .i64 b] ⟨false, 0⟩])) 17)) fun a4 => (Option.bind (boolOf? (c.ld (List.length (aU ++ [AObj.cells [.int .i64 a, .int .i64 b] ⟨false, 0⟩])) 18)) fun a5 => (Option.bind (intOf? .u64 (c.ld (List.length (aU ++ [AObj.cells [.int .i64 a, .int .i64 b] ⟨false, 0⟩])) 19)) fun a6 => (Option.bind (intOf? .i64 (c.ld (List.length (aU ++ [AObj.cells [.int .i64 a, .int .i64 b] ⟨false, 0⟩])) 20)) fun a7 => (Option.bind (intOf? .i64 (c.ld (List.length (aU ++ [AObj.cells [.int .i64 a, .int .i64 b] ⟨false, 0⟩])) 21)) fun a8 => (Option.bind (intOf? .i64 (c.ld (List.length (aU ++ [AObj.cells [.int .i64 a, .int .i64 b] ⟨false, 0⟩])) 22)) fun a9 => (Option.bind (intOf? .i64 (c.ld (List.length (aU ++ [AObj.cells [.int .i64 a, .int .i64 b] ⟨false, 0⟩])) 23)) fun aA => (Option.bind (boolOf? (c.ld (List.length (aU ++ [AObj.cells [.int .i64 a, .int .i64 b] ⟨false, 0⟩])) 24)) fun aB => (Option.bind (boolOf? (c.ld (List.length (aU ++ [AObj.cells [.int .i64 a, .int .i64 b] ⟨false, 0⟩])) 25)) fun aC => (Option.bind (intOf? .u64 (c.ld (List.length (aU ++ [AObj.cells [.int .i64 a, .int .i64 b] ⟨false, 0⟩])) 26)) fun aD => (Option.bind (intOf? .i64 (c.ld (List.length (aU ++ [AObj.cells [.int .i64 a, .int .i64 b] ⟨false, 0⟩])) 27)) fun aE => (Option.bind (intOf? .i64 (c.ld (List.length (aU ++ [AObj.cells [.int .i64 a, .int .i64 b] ⟨false, 0⟩])) 28)) fun aF => (Option.bind (boolOf? (c.ld (List.length (aU ++ [AObj.cells [.int .i64 a, .int .i64 b] ⟨false, 0⟩])) 29)) fun aG => (Option.bind (intOf? .i64 (c.ld (List.length (aU ++ [AObj.cells [.int .i64 a, .int .i64 b] ⟨false, 0⟩])) 30)) fun aH => some (.agg #[.int .i64 T, .int .i64 U, .int .i64 V, .slice l.1 l.2.1 l.2.2, .int .i64 W, .int .i64 X, .slice m.1 m.2.1 m.2.2, .int .i64 Y, .int .i64 Z, .int .i64 a0, .slice n.1 n.2.1 n.2.2, .slice o.1 o.2.1 o.2.2, .bool a1, .int .i64 a2, .slice p.1 p.2.1 p.2.2, .int .i64 a3, .slice q.1 q.2.1 q.2.2, .int .i64 a4, .bool a5, .int .u64 a6, .int .i64 a7, .int .i64 a8, .int .i64 a9, .int .i64 aA, .bool aB, .bool aC, .int .u64 aD, .int .i64 aE, .int .i64 aF, .bool aG, .int .i64 aH], c))))))))))))))))))))))))))))))))))))))))))))))))))))))))))))))))))))))))))) := by kernel_rfl
theorem E17 (p : Rec) (a : Option Addr) (q : AMem) : enterF p a17 [.pointer a] q = (match a with | some d => (Option.bind (boolOf? (q.ld d.block (d.off + 12))) fun l => (if (!l) = true then (match a with | some e => (Option.bind (sliceOf? (q.ld e.block (e.off + 11))) fun m => (if ((Int.ofNat m.2.1) == 0) = true then (match a with | some f => (Option.bind (sliceOf? (q.ld f.block (f.off + 6))) fun n => (if ((Int.ofNat n.2.1) == 0) = true then (match a with | some g => (Option.bind (intOf? .i64 (q.ld g.block (g.off + 4))) fun o => (match a with | some h => (Option.bind (intOf? .i64 (q.ld h.block (h.off + 5))) fun i => (if (decide (o ≥ i)) = true then (match a with | some b => (Option.bind (boolOf? (q.ld b.block (b.off + 29))) fun j => (if j = true then (match a with | some c => (Option.bind (sliceOf? (q.ld c.block ((c.off + 7) + 3))) fun k => some (.bool ((Int.ofNat k.2.1) == 0), q)) | none => none) else some (.bool false, q))) | none => none) else some (.bool false, q))) | none => none)) | none => none) else some (.bool false, q))) | none => none) else some (.bool false, q))) | none => none) else some (.bool false, q))) | none => none) := by kernel_rfl
def s43_14 (a b : Option Addr) (c d : Nat) (e : Bool) (f : AMem) : List Value := .pointer a :: .pointer b :: jk 2 (.pointer (some ⟨c, 0, none⟩) :: .pointer (some ⟨d, 0, none⟩) :: .bool e :: jk 121 [])
noncomputable def F43_14 (a b : ACode) (h : Rec) := fun c d e f g i => code h a (seqK (code h (.clear zl39 b) (retK [.cell true eL 4])) (retK [.cell true eL 4])) (s43_14 c d e f g i) i

noncomputable def P43_14 := hid (F43_14 c43_14 c43_18)
def s43_18 (a b : Option Addr) (c : Nat) (d : AMem) : List Value := .pointer a :: .pointer b :: jk 2 (.pointer (some ⟨c, 0, none⟩) :: jk 123 [])
noncomputable def F43_18 (a : ACode) (e : Rec) := fun b c d f => code e a (retK [.cell true eL 4]) (s43_18 b c d f) f

noncomputable def P43_18 := hid (F43_18 c43_18)
def s43_28 (a : Option Addr) (b : Nat) (c d : Int) (e : AMem) : List Value := .pointer a :: jk 3 (.pointer (some ⟨b, 0, none⟩) :: jk 2 (.int .i64 c :: junk :: .int .i64 d :: jk 118 []))
noncomputable def F43_28 (a : ACode) (f : Rec) := fun b c d e g => code f a (retK [.cell true eL 4]) (s43_28 b c d e g) g

noncomputable def P43_28 := hid (F43_28 c43_28)
theorem QP43_14_eq (u : Rec) (a : ACode) (b : Rec → (Option Addr) → (Option Addr) → Nat → Nat → Bool → AMem → Res) (d : Eq b fun u h l m f n v => code u (.seq (.ops o43_15) (.ops o43_16)) (seqK (code u (.clear zl39 a) (retK [.cell true eL 4])) (retK [.cell true eL 4])) (s43_14 h l m f n v) v) (c) (e : c = F43_18 a) (h l : Option Addr) (m f : Nat) (n : Bool) (v : AMem) : b u h l m f n v = (Option.bind (intOf? .i64 (v.ld f 0)) fun o => (Option.bind (sliceOf? (v.ld f 1)) fun g => (Option.bind (intOf? .i64 (v.ld f 2)) fun p => (Option.bind (boolOf? (v.ld f 3)) fun q => (Option.bind (intOf? .u64 (v.ld f 4)) fun r => (Option.bind (intOf? .i64 (v.ld f 5)) fun s => (match h with | some i => (Option.bind (v.wr i.block (i.off + 15) [.int .i64 o, .slice g.1 g.2.1 g.2.2, .int .i64 p, .bool q, .int .u64 r, .int .i64 s]) fun t => (match h with | some j => (Option.bind (t.wr j.block (j.off + 12) [.bool n]) fun k => c u h l m k) | none => none)) | none => none))))))) := by
  subst d; subst e; kernel_rfl
abbrev P43_14_eq (L : Rec) := QP43_14_eq L _ P43_14 (hE _) P43_18 (hE _)
theorem QP43_18_eq (z : Rec) (a : ACode) (b : Rec → (Option Addr) → (Option Addr) → Nat → AMem → Res) (e : Eq b fun z d t u A => code z (.seq (.draw [] 0 o43_19 []) (.seq (.ops o43_21) (.seq (.draw [] 0 o43_23 []) (.seq (.ops o43_25) (.seq (.ops o43_27) (.clear zl37 a)))))) (retK [.cell true eL 4]) (s43_18 d t u A) A) (c) (f : c = F43_28 a) (d t : Option Addr) (u : Nat) (A : AMem) : b z d t u A = (match d with | some n => (Option.bind (sliceOf? (A.ld n.block ((n.off + 15) + 1))) fun v => (match d with | some o => (Option.bind (intOf? .i64 (A.ld o.block ((o.off + 15) + 5))) fun w => (match d with | some p => (Option.bind (z.call 72 [.pointer (some ⟨p.block, (p.off + 15), none⟩), .pointer t] A) fun g => (Option.bind (boolOf? (some g.1)) fun y => (match d with | some q => (Option.bind (intOf? .i64 (g.2.ld q.block (q.off + 30))) fun x => (match d with | some h => (Option.bind (intOf? .i64 (g.2.ld h.block ((h.off + 15) + 5))) fun r => (match d with | some i => (Option.bind (g.2.wr i.block (i.off + 30) [.int .i64 (IntKind.wrap .i64 ((IntKind.wrap .i64 (x + r)) - w))]) fun j => (match d with | some k => (Option.bind (sliceOf? (j.ld k.block ((k.off + 15) + 1))) fun l => (match d with | some m => (Option.bind (j.wr m.block (m.off + 12) [.bool (decide ((Int.ofNat l.2.1) > 0))]) fun s => c z d u (Int.ofNat v.2.1) (Int.ofNat l.2.1) s) | none => none)) | none => none)) | none => none)) | none => none)) | none => none))) | none => none)) | none => none)) | none => none) := by
  subst e; subst f; kernel_rfl
abbrev P43_18_eq (L : Rec) := QP43_18_eq L _ P43_18 (hE _) P43_28 (hE _)
theorem QP43_28_eq (w : Rec) (c : Rec → (Option Addr) → Nat → Int → Int → AMem → Res) (e : Eq c fun w g b h f x => code w (.seq (.draw [] 0 o43_29 []) (.ret)) (retK [.cell true eL 4]) (s43_28 g b h f x) x) (g : Option Addr) (b : Nat) (h f : Int) (x : AMem) : c w g b h f x = (match g with | some i => (Option.bind (intOf? .i64 (x.ld i.block (i.off + 13))) fun j => (match g with | some k => (Option.bind (intOf? .i64 (x.ld k.block ((k.off + 15) + 2))) fun r => (if (h == r) = true then (Option.bind (x.wr b 0 [.int .i64 3, .int .i64 0, .int .i64 j, .bool (decide (f < h)), .bool (f == 0)]) fun d => (Option.bind (intOf? .i64 (d.ld b 0)) fun s => (Option.bind (intOf? .i64 (d.ld b 1)) fun t => (Option.bind (intOf? .i64 (d.ld b 2)) fun u => (Option.bind (boolOf? (d.ld b 3)) fun v => (Option.bind (boolOf? (d.ld b 4)) fun l => some (.agg #[.int .i64 s, .int .i64 t, .int .i64 u, .bool v, .bool l], d))))))) else (Option.bind (x.wr b 0 [.int .i64 3, .int .i64 0, .int .i64 j, .bool false, .bool (f == 0)]) fun a => (Option.bind (intOf? .i64 (a.ld b 0)) fun m => (Option.bind (intOf? .i64 (a.ld b 1)) fun n => (Option.bind (intOf? .i64 (a.ld b 2)) fun o => (Option.bind (boolOf? (a.ld b 3)) fun p => (Option.bind (boolOf? (a.ld b 4)) fun q => some (.agg #[.int .i64 m, .int .i64 n, .int .i64 o, .bool p, .bool q], a))))))))) | none => none)) | none => none) := by
  subst e; kernel_rfl
abbrev P43_28_eq (L : Rec) := QP43_28_eq L P43_28 (hE _)
theorem QE43 (V : Rec) (e d : ACode) (f) (j : f = F43_14 e d) (g) (k : g = F43_18 d) (h S : Option Addr) (W : AMem) : enterF V ⟨128, [.cell true eL 4], .seq (.ops o43_1) (.seq (.seq (.ops o43_4) (.cond (.tmp 14) (.seq (.ops o43_7) (.seq (.ops o43_9) (.seq (.draw [] 0 o43_11 []) (.seq (.draw f43_13 0 o43_13 [(16, 12)]) (.clear zl38 e))))) (.skip))) (.clear zl39 d))⟩ [.pointer h, .pointer S] W = (match h with | some y => (Option.bind (boolOf? (AMem.ld (W ++ [AObj.cells ev0 ⟨false, 0⟩]) y.block (y.off + 12))) fun T => (if (!T) = true then (match h with | some z => (Option.bind (sliceOf? (AMem.ld (W ++ [AObj.cells ev0 ⟨false, 0⟩]) z.block (z.off + 11))) fun A => (match A.1 with | some B => (if (0 : Int) ≤ 0 ∧ 0 < (Int.ofNat A.2.1) then (Option.bind (intOf? .i64 (AMem.ld (W ++ [AObj.cells ev0 ⟨false, 0⟩]) B.block B.off)) fun U => (match h with | some C => (Option.bind (AMem.wr (W ++ [AObj.cells ev0 ⟨false, 0⟩]) C.block (C.off + 13) [.int .i64 U]) fun D => (match h with | some E => (Option.bind (sliceOf? (D.ld E.block (E.off + 11))) fun c => (if (0 : Int) ≤ 1 ∧ 1 ≤ (Int.ofNat c.2.1) ∧ (Int.ofNat c.2.1) ≤ (Int.ofNat c.2.1) then (match h with | some q => (Option.bind (D.wr q.block (q.off + 11) [.slice (Option.map (fun X => (⟨X.block, X.off + 1, X.spot⟩ : Addr)) c.1) (Int.toNat ((Int.ofNat c.2.1) - 1)) (if c.2.2 = 1 then 1 else 0)]) fun r => (match h with | some s => (match h with | some t => (Option.bind (intOf? .i64 (r.ld t.block (t.off + 13))) fun F => (Option.bind (V.call 70 [.pointer (some ⟨s.block, (s.off + 7), none⟩), .int .i64 F] r) fun u => (Option.bind (sliceOf? (some u.1)) fun l => (match h with | some v => (Option.bind (u.2.wr v.block (v.off + 14) [.slice l.1 l.2.1 l.2.2]) fun a => (match h with | some i => (Option.bind (intOf? .i64 (AMem.ld (a ++ [AObj.cells [.int .i64 0, .slice none 0 0, .int .i64 0, .bool false, .int .u64 0, .int .i64 0] ⟨false, 0⟩]) i.block i.off)) fun G => (Option.bind (intOf? .i64 (AMem.ld (a ++ [AObj.cells [.int .i64 0, .slice none 0 0, .int .i64 0, .bool false, .int .u64 0, .int .i64 0] ⟨false, 0⟩]) i.block (i.off + 1))) fun H => (match h with | some w => (Option.bind (intOf? .i64 (AMem.ld (a ++ [AObj.cells [.int .i64 0, .slice none 0 0, .int .i64 0, .bool false, .int .u64 0, .int .i64 0] ⟨false, 0⟩]) w.block (w.off + 13))) fun I => (match h with | some x => (Option.bind (sliceOf? (AMem.ld (a ++ [AObj.cells [.int .i64 0, .slice none 0 0, .int .i64 0, .bool false, .int .u64 0, .int .i64 0] ⟨false, 0⟩]) x.block (x.off + 14))) fun m => (Option.bind (V.call 71 [.agg #[.int .i64 G, .int .i64 H], .int .i64 I, .slice m.1 m.2.1 m.2.2] (a ++ [AObj.cells [.int .i64 0, .slice none 0 0, .int .i64 0, .bool false, .int .u64 0, .int .i64 0] ⟨false, 0⟩])) fun n => (Option.bind (tupOf? 2 n.1) fun o => (Option.bind (o[0]?) fun J => (Option.bind (aggOf? 6 J) fun b => (Option.bind (intOf? .i64 (b[0]?)) fun K => (Option.bind (sliceOf? (b[1]?)) fun p => (Option.bind (intOf? .i64 (b[2]?)) fun L => (Option.bind (boolOf? (b[3]?)) fun M => (Option.bind (intOf? .u64 (b[4]?)) fun N => (Option.bind (intOf? .i64 (b[5]?)) fun O => (Option.bind (o[1]?) fun P => (Option.bind (boolOf? (some P)) fun Q => (Option.bind (n.2.wr a.length 0 [.int .i64 K, .slice p.1 p.2.1 p.2.2, .int .i64 L, .bool M, .int .u64 N, .int .i64 O]) fun R => (if chkOk [(16, 12)] [(16, a.length)] [(12, ((a ++ [AObj.cells [.int .i64 0, .slice none 0 0, .int .i64 0, .bool false, .int .u64 0, .int .i64 0] ⟨false, 0⟩]), n.2))] = true then f V h S W.length a.length Q R else none))))))))))))))) | none => none)) | none => none))) | none => none)) | none => none)))) | none => none) | none => none)) | none => none) else none)) | none => none)) | none => none)) else none) | none => none)) | none => none) else g V h S W.length (W ++ [AObj.cells ev0 ⟨false, 0⟩]))) | none => none) := by
  subst j; subst k; kernel_rfl
abbrev E43 (L : Rec) (x0 x1 : Option Addr) (M : AMem) := (Eq.refl (enterF L a43 [.pointer x0, .pointer x1] M)).trans (QE43 L _ _ P43_14 (hE _) P43_18 (hE _) x0 x1 M)
def s16_13 (b c : Option Addr) (d : Nat) (a : Bool) (e : AMem) : List Value := .pointer b :: .pointer c :: jk 2 (.pointer (some ⟨d, 0, none⟩) :: jk 30 (.bool a :: jk 181 []))
noncomputable def F16_13 (a b c : ACode) (h : Rec) := fun e f g d i => code h b (seqK (code h (.seq (.block 0 (.clear zl23 (.loop a))) (.clear zl23 c)) (retK [.cell true eL 4])) (retK [.cell true eL 4])) (s16_13 e f g d i) i

noncomputable def P16_13 := hid (F16_13 b16_20 c16_13 c16_39)
def s16_20 (a b : Option Addr) (c : Nat) (d : AMem) : List Value := .pointer a :: .pointer b :: jk 2 (.pointer (some ⟨c, 0, none⟩) :: jk 212 [])
noncomputable def F16_20 (a b : ACode) (f : Rec) := fun c d e g => f.loop a (blockK 0 (seqK (code f (.clear zl23 b) (retK [.cell true eL 4])) (retK [.cell true eL 4]))) (s16_20 c d e g) g

noncomputable def P16_20 := hid (F16_20 b16_20 c16_39)
def s16_34 (a b : Option Addr) (c : Nat) (d : AMem) : List Value := .pointer a :: .pointer b :: jk 2 (.pointer (some ⟨c, 0, none⟩) :: jk 212 [])
noncomputable def F16_34 (a c b : ACode) (g : Rec) := fun d e f h => code g c (seqK (code g (.ops o16_38) (blockK 1 (postK zl23 (loopK g a (blockK 0 (seqK (code g (.clear zl23 b) (retK [.cell true eL 4])) (retK [.cell true eL 4]))))))) (blockK 1 (postK zl23 (loopK g a (blockK 0 (seqK (code g (.clear zl23 b) (retK [.cell true eL 4])) (retK [.cell true eL 4]))))))) (s16_34 d e f h) h

noncomputable def P16_34 := hid (F16_34 b16_20 c16_34 c16_39)
def s16_39 (a b : Option Addr) (c : Nat) (d : AMem) : List Value := .pointer a :: .pointer b :: jk 2 (.pointer (some ⟨c, 0, none⟩) :: jk 212 [])
noncomputable def F16_39 (a : ACode) (e : Rec) := fun b c d f => code e a (retK [.cell true eL 4]) (s16_39 b c d f) f

noncomputable def P16_39 := hid (F16_39 c16_39)
def s16_47 (a : Option Addr) (b : Nat) (c : AMem) : List Value := .pointer a :: jk 3 (.pointer (some ⟨b, 0, none⟩) :: jk 212 [])
noncomputable def F16_47 (a b : ACode) (e : Rec) := fun c d f => code e a (seqK (code e (.seq (.seq (.ops o16_53) (.cond (.tmp 113) (.seq (.ops o16_56) (.seq (.ops o16_58) (.seq (.draw [] 0 o16_60 []) (.clear zl24 b)))) (.skip))) (.seq (.seq (.ops o16_79) (.cond (.tmp 205) (.seq (.ops o16_82) (.ret)) (.skip))) (.seq (.ops o16_86) (.seq (.ops o16_88) (.ret))))) (retK [.cell true eL 4])) (retK [.cell true eL 4])) (s16_47 c d f) f

noncomputable def P16_47 := hid (F16_47 c16_47 c16_61)
def s16_61 (a : Option Addr) (b : Nat) (c : AMem) : List Value := .pointer a :: jk 3 (.pointer (some ⟨b, 0, none⟩) :: jk 212 [])
noncomputable def F16_61 (a : ACode) (d : Rec) := fun b c e => code d a (seqK (code d (.seq (.seq (.ops o16_79) (.cond (.tmp 205) (.seq (.ops o16_82) (.ret)) (.skip))) (.seq (.ops o16_86) (.seq (.ops o16_88) (.ret)))) (retK [.cell true eL 4])) (retK [.cell true eL 4])) (s16_61 b c e) e

noncomputable def P16_61 := hid (F16_61 c16_61)
def s16_69 (a : Option Addr) (b : Nat) (c : AMem) : List Value := .pointer a :: jk 3 (.pointer (some ⟨b, 0, none⟩) :: jk 212 [])
noncomputable def F16_69 (a b : ACode) (e : Rec) := fun c d f => code e a (seqK (code e (.clear zl25 b) (seqK (code e (.seq (.seq (.ops o16_79) (.cond (.tmp 205) (.seq (.ops o16_82) (.ret)) (.skip))) (.seq (.ops o16_86) (.seq (.ops o16_88) (.ret)))) (retK [.cell true eL 4])) (retK [.cell true eL 4]))) (seqK (code e (.seq (.seq (.ops o16_79) (.cond (.tmp 205) (.seq (.ops o16_82) (.ret)) (.skip))) (.seq (.ops o16_86) (.seq (.ops o16_88) (.ret)))) (retK [.cell true eL 4])) (retK [.cell true eL 4]))) (s16_69 c d f) f

noncomputable def P16_69 := hid (F16_69 c16_69 c16_73)
def s16_73 (a : Nat) (b : AMem) : List Value := jk 4 (.pointer (some ⟨a, 0, none⟩) :: jk 212 [])
noncomputable def F16_73 (a : ACode) (c : Rec) := fun b d => code c a (seqK (code c (.seq (.seq (.ops o16_79) (.cond (.tmp 205) (.seq (.ops o16_82) (.ret)) (.skip))) (.seq (.ops o16_86) (.seq (.ops o16_88) (.ret)))) (retK [.cell true eL 4])) (retK [.cell true eL 4])) (s16_73 b d) d

noncomputable def P16_73 := hid (F16_73 c16_73)
theorem QP16_13_eq (x : Rec) (b c : ACode) (d : Rec → (Option Addr) → (Option Addr) → Nat → Bool → AMem → Res) (g : Eq d fun x k l i j y => code x (.cond (.tmp 35) (.seq (.ops o16_15) (.ret)) (.skip)) (seqK (code x (.seq (.block 0 (.clear zl23 (.loop b))) (.clear zl23 c)) (retK [.cell true eL 4])) (retK [.cell true eL 4])) (s16_13 k l i j y) y) (e) (h : e = F16_20 b c) (k l : Option Addr) (i : Nat) (j : Bool) (y : AMem) : d x k l i j y = (if j = true then (Option.bind (x.call 43 [.pointer k, .pointer l] y) fun m => (Option.bind (aggOf? 5 m.1) fun a => (Option.bind (intOf? .i64 (a[0]?)) fun r => (Option.bind (intOf? .i64 (a[1]?)) fun s => (Option.bind (intOf? .i64 (a[2]?)) fun t => (Option.bind (boolOf? (a[3]?)) fun u => (Option.bind (boolOf? (a[4]?)) fun v => (Option.bind (m.2.wr i 0 [.int .i64 r, .int .i64 s, .int .i64 t, .bool u, .bool v]) fun f => (Option.bind (intOf? .i64 (f.ld i 0)) fun w => (Option.bind (intOf? .i64 (f.ld i 1)) fun n => (Option.bind (intOf? .i64 (f.ld i 2)) fun o => (Option.bind (boolOf? (f.ld i 3)) fun p => (Option.bind (boolOf? (f.ld i 4)) fun q => some (.agg #[.int .i64 w, .int .i64 n, .int .i64 o, .bool p, .bool q], f)))))))))))))) else e x k l i y) := by
  subst g; subst h; kernel_rfl
abbrev P16_13_eq (L : Rec) := QP16_13_eq L _ _ P16_13 (hE _) P16_20 (hE _)
theorem QP16_20_eq (I : Rec) (b f c : ACode) (H : HB I b (.post (.seq (.seq (.ops o16_23) (.cond (.tmp 44) (.skip) (.exit 0))) (.block 1 (.seq (.seq (.draw [] 0 o16_30 []) (.cond (.tmp 55) (.seq (.ops o16_33) (.clear zl23 f)) (.skip))) (.ops o16_38)))) zl23)) (d) (j : d = F16_20 b c) (g) (k : g = F16_34 b f c) (h) (l : h = F16_39 c) (m B : Option Addr) (C : Nat) (J : AMem) : d I m B C J = (match m with | some t => (Option.bind (sliceOf? (J.ld t.block (t.off + 6))) fun D => (if (decide ((Int.ofNat D.2.1) > 0)) = true then (match m with | some u => (match m with | some v => (Option.bind (sliceOf? (J.ld v.block (v.off + 6))) fun w => (match w.1 with | some e => (if (0 : Int) ≤ 0 ∧ 0 < (Int.ofNat w.2.1) then (Option.bind (intOf? .i64 (J.ld e.block e.off)) fun E => (Option.bind (intOf? .i64 (J.ld e.block (e.off + 1))) fun F => (Option.bind (intOf? .i64 (J.ld e.block (e.off + 2))) fun G => (Option.bind (intOf? .i64 (J.ld e.block (e.off + 3))) fun x => (Option.bind (I.call 44 [.pointer (some ⟨u.block, (u.off + 7), none⟩), .agg #[.int .i64 E, .int .i64 F, .int .i64 G, .int .i64 x]] J) fun i => (Option.bind (boolOf? (some i.1)) fun y => (if (!y) = true then (match m with | some o => (Option.bind (I.call 45 [.pointer (some ⟨o.block, (o.off + 7), none⟩)] i.2) fun p => (Option.bind (sliceOf? (some p.1)) fun n => (match m with | some q => (Option.bind (p.2.wr q.block (q.off + 11) [.slice n.1 n.2.1 n.2.2]) fun z => g I m B C z) | none => none))) | none => none) else (match m with | some r => (Option.bind (sliceOf? (i.2.ld r.block (r.off + 6))) fun a => (if (0 : Int) ≤ 1 ∧ 1 ≤ (Int.ofNat a.2.1) ∧ (Int.ofNat a.2.1) ≤ (Int.ofNat a.2.1) then (match m with | some s => (Option.bind (i.2.wr s.block (s.off + 6) [.slice (Option.map (fun K => (⟨K.block, K.off + 4, K.spot⟩ : Addr)) a.1) (Int.toNat ((Int.ofNat a.2.1) - 1)) (if a.2.2 = 4 then 4 else 0)]) fun A => d I m B C A) | none => none) else none)) | none => none)))))))) else none) | none => none)) | none => none) | none => none) else h I m B C J)) | none => none) := by
  subst j; subst k; subst l; exact (H _ _ _).trans (by kernel_rfl)
abbrev P16_20_eq (L : Rec) (hL : HL L) := QP16_20_eq L _ _ _ (hL b16_20) P16_20 (hE _) P16_34 (hE _) P16_39 (hE _)
theorem QP16_34_eq (u : Rec) (b c : ACode) (d : Rec → (Option Addr) → (Option Addr) → Nat → AMem → Res) (f : Eq d fun u m n g v => code u (.seq (.ops o16_35) (.ret)) (seqK (code u (.ops o16_38) (blockK 1 (postK zl23 (loopK u b (blockK 0 (seqK (code u (.clear zl23 c) (retK [.cell true eL 4])) (retK [.cell true eL 4]))))))) (blockK 1 (postK zl23 (loopK u b (blockK 0 (seqK (code u (.clear zl23 c) (retK [.cell true eL 4])) (retK [.cell true eL 4]))))))) (s16_34 m n g v) v) (m n : Option Addr) (g : Nat) (v : AMem) : d u m n g v = (Option.bind (u.call 43 [.pointer m, .pointer n] v) fun h => (Option.bind (aggOf? 5 h.1) fun a => (Option.bind (intOf? .i64 (a[0]?)) fun o => (Option.bind (intOf? .i64 (a[1]?)) fun p => (Option.bind (intOf? .i64 (a[2]?)) fun q => (Option.bind (boolOf? (a[3]?)) fun r => (Option.bind (boolOf? (a[4]?)) fun s => (Option.bind (h.2.wr g 0 [.int .i64 o, .int .i64 p, .int .i64 q, .bool r, .bool s]) fun e => (Option.bind (intOf? .i64 (e.ld g 0)) fun t => (Option.bind (intOf? .i64 (e.ld g 1)) fun i => (Option.bind (intOf? .i64 (e.ld g 2)) fun j => (Option.bind (boolOf? (e.ld g 3)) fun k => (Option.bind (boolOf? (e.ld g 4)) fun l => some (.agg #[.int .i64 t, .int .i64 i, .int .i64 j, .bool k, .bool l], e)))))))))))))) := by
  subst f; kernel_rfl
abbrev P16_34_eq (L : Rec) := QP16_34_eq L _ _ P16_34 (hE _)
theorem QP16_39_eq (aE : Rec) (g e : ACode) (h : Rec → (Option Addr) → (Option Addr) → Nat → AMem → Res) (l : Eq h fun aE b G f aF => code aE (.seq (.seq (.draw [] 0 o16_41 []) (.cond (.tmp 82) (.seq (.draw [] 0 o16_44 []) (.seq (.ops o16_46) (.clear zl24 g))) (.skip))) (.seq (.seq (.ops o16_53) (.cond (.tmp 113) (.seq (.ops o16_56) (.seq (.ops o16_58) (.seq (.draw [] 0 o16_60 []) (.clear zl24 e)))) (.skip))) (.seq (.seq (.ops o16_79) (.cond (.tmp 205) (.seq (.ops o16_82) (.ret)) (.skip))) (.seq (.ops o16_86) (.seq (.ops o16_88) (.ret)))))) (retK [.cell true eL 4]) (s16_39 b G f aF) aF) (i) (m : i = F16_47 g e) (j) (n : j = F16_61 e) (b G : Option Addr) (f : Nat) (aF : AMem) : h aE b G f aF = (match b with | some H => (Option.bind (intOf? .i64 (aF.ld H.block (H.off + 4))) fun aB => (match b with | some I => (Option.bind (intOf? .i64 (aF.ld I.block (I.off + 5))) fun aC => (if (decide (aB < aC)) = true then (match b with | some J => (Option.bind (sliceOf? (aF.ld J.block (J.off + 3))) fun K => (match b with | some L => (Option.bind (intOf? .i64 (aF.ld L.block (L.off + 4))) fun F => (match K.1 with | some M => (if (0 : Int) ≤ F ∧ F < (Int.ofNat K.2.1) then (Option.bind (sliceOf? (aF.ld M.block (M.off + ((Int.toNat F) * 1)))) fun o => (match b with | some q => (Option.bind (aF.wr q.block (q.off + 6) [.slice o.1 o.2.1 o.2.2]) fun r => (match b with | some s => (Option.bind (intOf? .i64 (r.ld s.block (s.off + 4))) fun N => (match b with | some t => (Option.bind (r.wr t.block (t.off + 4) [.int .i64 (IntKind.wrap .i64 (N + 1))]) fun O => i aE b f O) | none => none)) | none => none)) | none => none)) else none) | none => none)) | none => none)) | none => none) else (match b with | some u => (Option.bind (boolOf? (aF.ld u.block (u.off + 29))) fun P => (if (!P) = true then (match b with | some v => (Option.bind (intOf? .i64 (aF.ld v.block ((v.off + 21) + 2))) fun Q => (match b with | some w => (Option.bind (aE.call 46 [.pointer (some ⟨w.block, (w.off + 21), none⟩), .pointer G] aF) fun k => (Option.bind (boolOf? (some k.1)) fun aD => (match b with | some x => (Option.bind (intOf? .i64 (k.2.ld x.block (x.off + 30))) fun R => (match b with | some y => (Option.bind (intOf? .i64 (k.2.ld y.block ((y.off + 21) + 2))) fun S => (match b with | some z => (Option.bind (k.2.wr z.block (z.off + 30) [.int .i64 (IntKind.wrap .i64 ((IntKind.wrap .i64 (R + S)) - Q))]) fun T => j aE b f T) | none => none)) | none => none)) | none => none))) | none => none)) | none => none) else (match b with | some A => (Option.bind (sliceOf? (aF.ld A.block ((A.off + 7) + 3))) fun U => (if ((Int.ofNat U.2.1) == 0) = true then (Option.bind (aF.wr f 0 ev0) fun c => (Option.bind (intOf? .i64 (c.ld f 0)) fun V => (Option.bind (intOf? .i64 (c.ld f 1)) fun W => (Option.bind (intOf? .i64 (c.ld f 2)) fun X => (Option.bind (boolOf? (c.ld f 3)) fun Y => (Option.bind (boolOf? (c.ld f 4)) fun Z => some (.agg #[.int .i64 V, .int .i64 W, .int .i64 X, .bool Y, .bool Z], c))))))) else (match b with | some B => (Option.bind (aE.call 45 [.pointer (some ⟨B.block, (B.off + 7), none⟩)] aF) fun C => (Option.bind (sliceOf? (some C.1)) fun p => (match b with | some D => (Option.bind (C.2.wr D.block (D.off + 11) [.slice p.1 p.2.1 p.2.2]) fun a0 => (Option.bind (aE.call 43 [.pointer b, .pointer G] a0) fun E => (Option.bind (aggOf? 5 E.1) fun a => (Option.bind (intOf? .i64 (a[0]?)) fun a1 => (Option.bind (intOf? .i64 (a[1]?)) fun a2 => (Option.bind (intOf? .i64 (a[2]?)) fun a3 => (Option.bind (boolOf? (a[3]?)) fun a4 => (Option.bind (boolOf? (a[4]?)) fun a5 => (Option.bind (E.2.wr f 0 [.int .i64 a1, .int .i64 a2, .int .i64 a3, .bool a4, .bool a5]) fun d => (Option.bind (intOf? .i64 (d.ld f 0)) fun a6 => (Option.bind (intOf? .i64 (d.ld f 1)) fun a7 => (Option.bind (intOf? .i64 (d.ld f 2)) fun a8 => (Option.bind (boolOf? (d.ld f 3)) fun a9 => (Option.bind (boolOf? (d.ld f 4)) fun aA => some (.agg #[.int .i64 a6, .int .i64 a7, .int .i64 a8, .bool a9, .bool aA], d))))))))))))))) | none => none))) | none => none))) | none => none))) | none => none))) | none => none)) | none => none) := by
  subst l; subst m; subst n; kernel_rfl
abbrev P16_39_eq (L : Rec) := QP16_39_eq L _ _ P16_39 (hE _) P16_47 (hE _) P16_61 (hE _)
theorem QP16_47_eq (n : Rec) (d : ACode) (a : Rec → (Option Addr) → Nat → AMem → Res) (c : Eq a fun n g e o => code n (.seq (.ops o16_48) (.ret)) (seqK (code n (.seq (.seq (.ops o16_53) (.cond (.tmp 113) (.seq (.ops o16_56) (.seq (.ops o16_58) (.seq (.draw [] 0 o16_60 []) (.clear zl24 d)))) (.skip))) (.seq (.seq (.ops o16_79) (.cond (.tmp 205) (.seq (.ops o16_82) (.ret)) (.skip))) (.seq (.ops o16_86) (.seq (.ops o16_88) (.ret))))) (retK [.cell true eL 4])) (retK [.cell true eL 4])) (s16_47 g e o) o) (g : Option Addr) (e : Nat) (o : AMem) : a n g e o = (match g with | some f => (Option.bind (intOf? .i64 (o.ld f.block (f.off + 4))) fun h => (Option.bind (o.wr e 0 [.int .i64 2, .int .i64 (IntKind.wrap .i64 (h - 1)), .int .i64 0, .bool false, .bool false]) fun b => (Option.bind (intOf? .i64 (b.ld e 0)) fun i => (Option.bind (intOf? .i64 (b.ld e 1)) fun j => (Option.bind (intOf? .i64 (b.ld e 2)) fun k => (Option.bind (boolOf? (b.ld e 3)) fun l => (Option.bind (boolOf? (b.ld e 4)) fun m => some (.agg #[.int .i64 i, .int .i64 j, .int .i64 k, .bool l, .bool m], b)))))))) | none => none) := by
  subst c; kernel_rfl
abbrev P16_47_eq (L : Rec) := QP16_47_eq L _ P16_47 (hE _)
theorem QP16_61_eq (G : Rec) (d a : ACode) (e : Rec → (Option Addr) → Nat → AMem → Res) (g : Eq e fun G c q H => code G (.seq (.seq (.draw [] 0 o16_63 []) (.cond (.tmp 156) (.seq (.ops o16_66) (.seq (.ops o16_68) (.clear zl24 d))) (.ops o16_72))) (.clear zl25 a)) (seqK (code G (.seq (.seq (.ops o16_79) (.cond (.tmp 205) (.seq (.ops o16_82) (.ret)) (.skip))) (.seq (.ops o16_86) (.seq (.ops o16_88) (.ret)))) (retK [.cell true eL 4])) (retK [.cell true eL 4])) (s16_61 c q H) H) (f) (h : f = F16_69 d a) (b) (i : b = F16_73 a) (c : Option Addr) (q : Nat) (H : AMem) : e G c q H = (match c with | some r => (Option.bind (boolOf? (H.ld r.block ((r.off + 21) + 4))) fun C => (if C = true then (match c with | some s => (Option.bind (intOf? .i64 (H.ld s.block ((s.off + 21) + 6))) fun D => (match c with | some t => (Option.bind (intOf? .i64 (H.ld t.block ((t.off + 21) + 7))) fun E => (if (decide (D < E)) = true then (match c with | some u => (Option.bind (intOf? .i64 (H.ld u.block ((u.off + 21) + 6))) fun F => (match c with | some v => (Option.bind (H.wr v.block (v.off + 4) [.int .i64 F]) fun j => (match c with | some k => (Option.bind (intOf? .i64 (j.ld k.block ((k.off + 21) + 7))) fun w => (match c with | some l => (Option.bind (j.wr l.block (l.off + 5) [.int .i64 w]) fun x => f G c q x) | none => none)) | none => none)) | none => none)) | none => none) else (match c with | some m => (Option.bind (boolOf? (H.ld m.block ((m.off + 21) + 4))) fun y => (match c with | some n => (Option.bind (H.wr n.block (n.off + 29) [.bool y]) fun z => b G q z) | none => none)) | none => none))) | none => none)) | none => none) else (match c with | some o => (Option.bind (boolOf? (H.ld o.block ((o.off + 21) + 4))) fun A => (match c with | some p => (Option.bind (H.wr p.block (p.off + 29) [.bool A]) fun B => b G q B) | none => none)) | none => none))) | none => none) := by
  subst g; subst h; subst i; kernel_rfl
abbrev P16_61_eq (L : Rec) := QP16_61_eq L _ _ P16_61 (hE _) P16_69 (hE _) P16_73 (hE _)
theorem QP16_69_eq (K : Rec) (c : ACode) (d : Rec → (Option Addr) → Nat → AMem → Res) (f : Eq d fun K l D L => code K (.seq (.draw [] 0 o16_70 [(3, 13), (8, 13)]) (.ops o16_71)) (seqK (code K (.clear zl25 c) (seqK (code K (.seq (.seq (.ops o16_79) (.cond (.tmp 205) (.seq (.ops o16_82) (.ret)) (.skip))) (.seq (.ops o16_86) (.seq (.ops o16_88) (.ret)))) (retK [.cell true eL 4])) (retK [.cell true eL 4]))) (seqK (code K (.seq (.seq (.ops o16_79) (.cond (.tmp 205) (.seq (.ops o16_82) (.ret)) (.skip))) (.seq (.ops o16_86) (.seq (.ops o16_88) (.ret)))) (retK [.cell true eL 4])) (retK [.cell true eL 4]))) (s16_69 l D L) L) (e) (g : e = F16_73 c) (l : Option Addr) (D : Nat) (L : AMem) : d K l D L = (match l with | some j => (Option.bind (sliceOf? (L.ld j.block (j.off + 3))) fun E => (match l with | some k => (Option.bind (intOf? .i64 (L.ld k.block (k.off + 2))) fun F => (Option.bind (K.call 35 [.int .i64 (Int.ofNat E.2.1), .int .i64 F] []) fun G => (Option.bind (tupOf? 2 G.1) fun h => (Option.bind (h[0]?) fun H => (Option.bind (aggOf? 8 H) fun b => (Option.bind (intOf? .i64 (b[0]?)) fun I => (Option.bind (intOf? .i64 (b[1]?)) fun m => (Option.bind (intOf? .i64 (b[2]?)) fun n => (Option.bind (boolOf? (b[3]?)) fun o => (Option.bind (boolOf? (b[4]?)) fun p => (Option.bind (intOf? .u64 (b[5]?)) fun q => (Option.bind (intOf? .i64 (b[6]?)) fun r => (Option.bind (intOf? .i64 (b[7]?)) fun s => (Option.bind (h[1]?) fun t => (Option.bind (boolOf? (some t)) fun J => (Option.bind (AMem.wr (L ++ [AObj.cells [.int .i64 0, .int .i64 0, .int .i64 0, .bool false, .bool false, .int .u64 0, .int .i64 0, .int .i64 0] ⟨false, 0⟩]) L.length 0 [.int .i64 I, .int .i64 m, .int .i64 n, .bool o, .bool p, .int .u64 q, .int .i64 r, .int .i64 s]) fun a => (if chkOk [(3, 13), (8, 13)] [(8, k.block), (3, j.block)] [(13, (L, (L ++ [AObj.cells [.int .i64 0, .int .i64 0, .int .i64 0, .bool false, .bool false, .int .u64 0, .int .i64 0, .int .i64 0] ⟨false, 0⟩])))] = true then (Option.bind (intOf? .i64 (a.ld L.length 0)) fun u => (Option.bind (intOf? .i64 (a.ld L.length 1)) fun v => (Option.bind (intOf? .i64 (a.ld L.length 2)) fun w => (Option.bind (boolOf? (a.ld L.length 3)) fun x => (Option.bind (boolOf? (a.ld L.length 4)) fun y => (Option.bind (intOf? .u64 (a.ld L.length 5)) fun z => (Option.bind (intOf? .i64 (a.ld L.length 6)) fun A => (Option.bind (intOf? .i64 (a.ld L.length 7)) fun B => (match l with | some i => (Option.bind (a.wr i.block (i.off + 21) [.int .i64 u, .int .i64 v, .int .i64 w, .bool x, .bool y, .int .u64 z, .int .i64 A, .int .i64 B]) fun C => e K D C) | none => none))))))))) else none))))))))))))))))) | none => none)) | none => none) := by
  subst f; subst g; kernel_rfl
abbrev P16_69_eq (L : Rec) := QP16_69_eq L _ P16_69 (hE _) P16_73 (hE _)
theorem QP16_73_eq (j : Rec) (a : Rec → Nat → AMem → Res) (c : Eq a fun j d k => code j (.seq (.ops o16_74) (.ret)) (seqK (code j (.seq (.seq (.ops o16_79) (.cond (.tmp 205) (.seq (.ops o16_82) (.ret)) (.skip))) (.seq (.ops o16_86) (.seq (.ops o16_88) (.ret)))) (retK [.cell true eL 4])) (retK [.cell true eL 4])) (s16_73 d k) k) (d : Nat) (k : AMem) : a j d k = (Option.bind (k.wr d 0 [.int .i64 1, .int .i64 0, .int .i64 0, .bool false, .bool false]) fun b => (Option.bind (intOf? .i64 (b.ld d 0)) fun e => (Option.bind (intOf? .i64 (b.ld d 1)) fun f => (Option.bind (intOf? .i64 (b.ld d 2)) fun g => (Option.bind (boolOf? (b.ld d 3)) fun h => (Option.bind (boolOf? (b.ld d 4)) fun i => some (.agg #[.int .i64 e, .int .i64 f, .int .i64 g, .bool h, .bool i], b))))))) := by
  subst c; kernel_rfl
abbrev P16_73_eq (L : Rec) := QP16_73_eq L P16_73 (hE _)
theorem QE16 (G : Rec) (d e f : ACode) (c) (h : c = F16_13 d e f) (l z : Option Addr) (H : AMem) : enterF G ⟨217, [.cell true eL 4], .seq (.ops o16_1) (.seq (.seq (.draw [] 0 o16_4 []) (.cond (.tmp 22) (.seq (.ops o16_7) (.ret)) (.skip))) (.seq (.seq (.ops o16_12) (.clear zl26 e)) (.seq (.block 0 (.clear zl23 (.loop d))) (.clear zl23 f))))⟩ [.pointer l, .pointer z] H = (match z with | some m => (Option.bind (sliceOf? (AMem.ld (H ++ [AObj.cells ev0 ⟨false, 0⟩]) m.block m.off)) fun A => (match l with | some i => (Option.bind (intOf? .i64 (AMem.ld (H ++ [AObj.cells ev0 ⟨false, 0⟩]) i.block i.off)) fun B => (Option.bind (intOf? .i64 (AMem.ld (H ++ [AObj.cells ev0 ⟨false, 0⟩]) i.block (i.off + 1))) fun C => (Option.bind (G.call 8 [.agg #[.int .i64 B, .int .i64 C]] []) fun D => (Option.bind (intOf? .i64 (some D.1)) fun E => (if ((Int.ofNat A.2.1) != E) = true then (Option.bind (AMem.wr (H ++ [AObj.cells ev0 ⟨false, 0⟩]) H.length 0 ev0) fun g => (Option.bind (intOf? .i64 (g.ld H.length 0)) fun F => (Option.bind (intOf? .i64 (g.ld H.length 1)) fun n => (Option.bind (intOf? .i64 (g.ld H.length 2)) fun o => (Option.bind (boolOf? (g.ld H.length 3)) fun p => (Option.bind (boolOf? (g.ld H.length 4)) fun q => some (.agg #[.int .i64 F, .int .i64 n, .int .i64 o, .bool p, .bool q], g))))))) else (Option.bind (G.call 17 [.pointer l] (H ++ [AObj.cells ev0 ⟨false, 0⟩])) fun a => (Option.bind (boolOf? (some a.1)) fun r => (if r = true then (Option.bind (a.2.wr H.length 0 ev0) fun b => (Option.bind (intOf? .i64 (b.ld H.length 0)) fun s => (Option.bind (intOf? .i64 (b.ld H.length 1)) fun t => (Option.bind (intOf? .i64 (b.ld H.length 2)) fun u => (Option.bind (boolOf? (b.ld H.length 3)) fun v => (Option.bind (boolOf? (b.ld H.length 4)) fun w => some (.agg #[.int .i64 s, .int .i64 t, .int .i64 u, .bool v, .bool w], b))))))) else (match l with | some j => (Option.bind (boolOf? (a.2.ld j.block (j.off + 12))) fun x => (if x = true then c G l z H.length true a.2 else (match l with | some k => (Option.bind (sliceOf? (a.2.ld k.block (k.off + 11))) fun y => c G l z H.length (decide ((Int.ofNat y.2.1) > 0)) a.2) | none => none))) | none => none))))))))) | none => none)) | none => none) := by
  subst h; kernel_rfl
abbrev E16 (L : Rec) (x0 x1 : Option Addr) (M : AMem) := (Eq.refl (enterF L a16 [.pointer x0, .pointer x1] M)).trans (QE16 L _ _ _ P16_13 (hE _) x0 x1 M)
structure V8 where
  a : Value
  b : Value
  c : Value
  d : Value
  e : Value
  f : Value
  g : Value
  h : Value
def V8.l (v : V8) : List Value := [v.a, v.b, v.c, v.d, v.e, v.f, v.g, v.h]
structure DB where
  q : Option Addr
  qc : Nat
  kp : Option Addr
  kc : Nat
  pp : Option Addr
  pc : Nat
  js : V8
  cs : V8
  ep : Option Addr
  ec : Nat
  z : Nat
  zc : Nat
def d0 (P : WP) (tp : Option Addr) (D : DB) (σ : WS) : List Value := [.int .i64 P.p, .int .i64 P.s, .int .i64 P.size, .slice tp P.tb.length 0, .int .i64 σ.fr, .int .i64 σ.to, .slice D.pp σ.pl.length D.pc]
def d7 (P : WP) (D : DB) (σ : WS) : List Value := [.int .i64 P.p, .int .i64 P.s, .int .i64 P.room, .slice D.q σ.es.length D.qc]
def d11 (D : DB) (σ : WS) : List Value := [.slice D.kp σ.ks.length D.kc, .bool σ.has]
def d29 (σ : WS) : List Value := [.bool σ.over, .int .i64 (σ.lost : Int)]
def encD (P : WP) (tp : Option Addr) (D : DB) (σ : WS) : List Value := d0 P tp D σ ++ d7 P D σ ++ (d11 D σ ++ D.js.l ++ (D.cs.l ++ d29 σ))
theorem encD_length (P : WP) (tp : Option Addr) (D : DB) (σ : WS) : (encD P tp D σ).length = 31 := rfl
def rfOf (D : DB) (σ : WS) : Rf := ⟨D.z, D.zc, σ.fs⟩
def jobV (D : DB) (σ : WS) : V8 := ⟨.int .i64 σ.st, .slice D.ep σ.en.length D.ec, .int .i64 σ.fs.size, .slice (some ⟨D.z, σ.fs.nx * 2, none⟩) (σ.fs.adds.length - σ.fs.nx) D.zc, .int .i64 (σ.fs.adds.length : Int), .bool σ.fs.rd, .int .u64 σ.fs.seen, .int .i64 (σ.fs.lost : Int)⟩
def clmV (P : WP) (σ : WS) : V8 := ⟨.int .i64 P.all, .int .i64 P.size, .int .i64 σ.cs.lost, .bool (decide (σ.cs.ph = 1)), .bool (decide (1 < σ.cs.ph)), .int .u64 σ.cs.seen, .int .i64 σ.cs.fr, .int .i64 σ.cs.to⟩
structure RsD (ρ : Cl) (k N : Nat) (P : WP) (M : AMem) (D : DB) (σ : WS) : Prop where
  sl : Slc M 4 D.q σ.es.length D.qc (σ.es.flatMap encE)
  cq : Col M ρ (blk D.q) (k, 1)
  pd : View encS 4 M D.pp σ.pl
  cp : σ.pl ≠ [] → ∀ z ∈ blk D.pp, z < N
  kv : View (fun x : Int => [.int .i64 x]) 1 M D.kp σ.ks
  ck : Col M ρ (blk D.kp) (k, 2)
  fl : σ.has = true → D.js = jobV D σ ∧ Rd M D.z (σ.fs.adds.flatMap encA) ∧ ρ D.z = (k, 3) ∧ RdL M encE D.ep σ.en.length σ.en ∧ Col M ρ (blk D.ep) (k, 4)
  cl : σ.over = false → D.cs = clmV P σ
  lt : N ≤ M.length
  c0 : ∀ z, z < N → ρ z = (0, 0)
structure IsD (ρ : Cl) (k N : Nat) (P : WP) (tp : Option Addr) (M : AMem) (rb o : Nat) (A Z : List Value) (D : DB) (σ : WS) : Prop where
  hd : Mid M rb o A (encD P tp D σ) Z
  cw : ρ rb = (1, 1)
  rs : RsD ρ k N P M D σ
theorem RsD.ext {K : Nat × Nat → Prop} {ρ ρ' : Cl} {k N : Nat} {P : WP} {M M' : AMem} {D : DB} {σ : WS} (h : RsD ρ k N P M D σ) (e : Ext K ρ M ρ' M') (hk : ∀ r, r ≠ 0 → ¬ K (k, r)) (h0 : ¬ K (0, 0)) : RsD ρ' k N P M' D σ := by
  obtain ⟨S, t, hS⟩ := e.same
  refine ⟨h.sl.same t (Ext.free h.cq hS (hk 1 (by decide))), h.cq.ext e, view_arg h.pd h.cp h.lt h.c0 e h0, h.cp, h.kv.same t (Ext.free h.ck hS (hk 2 (by decide))), h.ck.ext e, fun hh => ?_, h.cl, Nat.le_trans h.lt e.le, fun z hz => ?_⟩
  · obtain ⟨a1, a2, a3, a4, a5⟩ := h.fl hh
    exact ⟨a1, rd_ext a2 e (by rw [a3]; exact hk 3 (by decide)), by rw [e.col _ a2.lt, a3], a4.same t (Ext.free a5 hS (hk 4 (by decide))), a5.ext e⟩
  · rw [e.col z (Nat.lt_of_lt_of_le hz h.lt)]; exact h.c0 z hz
section
variable {ρ ρ' : Cl} {k N : Nat} {P : WP} {tp : Option Addr} {M M' : AMem} {rb o : Nat} {A Z : List Value} {D : DB} {σ : WS}
theorem mid_ext {X : List Value} {K : Nat × Nat → Prop} (h : Mid M rb o A X Z) (e : Ext K ρ M ρ' M') (hk : ¬ K (ρ rb)) : Mid M' rb o A X Z := ⟨cells_ext h.cs e hk, h.at'⟩
theorem IsD.st (h : IsD ρ k N P tp M rb o A Z D σ) (t : Same M M' []) : IsD ρ k N P tp M' rb o A Z D σ :=
  ⟨h.hd.same t (by simp), h.cw, h.rs.ext (K := fun _ => False) (Ext.of t (fun z hz => by simp at hz)) (fun _ _ h => h) (fun h => h)⟩
theorem IsD.ext {K : Nat × Nat → Prop} (h : IsD ρ k N P tp M rb o A Z D σ) (e : Ext K ρ M ρ' M') (hk : ∀ r, r ≠ 0 → ¬ K (k, r)) (h0 : ¬ K (0, 0)) (h1 : ¬ K (1, 1)) : IsD ρ' k N P tp M' rb o A Z D σ :=
  ⟨mid_ext h.hd e (by rw [h.cw]; exact h1), by rw [e.col _ h.hd.cs.lt]; exact h.cw, h.rs.ext e hk h0⟩
theorem IsD.put (h : IsD ρ k N P tp M rb o A Z D σ) (hk : k ≠ 0 ∧ k ≠ 1) (j : Nat) (vs : List Value) (hj : j + vs.length ≤ 31) :
    ∃ M', M.wr rb (o + j) vs = some M' ∧ Mid M' rb o A (wrL (encD P tp D σ) j vs) Z ∧ Ext (fun c => c = (1, 1)) ρ M ρ M' ∧ RsD ρ k N P M' D σ ∧ Same M M' [rb] := by
  obtain ⟨M', w1, w2, w3⟩ := h.hd.wr j vs (by rw [encD_length]; exact hj)
  have x2 : Ext (fun c => c = (1, 1)) ρ M ρ M' := Ext.of w3 (fun z hz _ => by simp only [List.mem_singleton] at hz; subst hz; exact h.cw)
  exact ⟨M', w1, w2, x2, h.rs.ext x2 (fun r hr h => hk.2 (congrArg Prod.fst h)) (fun h => by cases h), w3⟩
theorem IsD.at (h : IsD ρ k N P tp M rb o A Z D σ) :
    (M.ld rb o = some (.int .i64 P.p) ∧ M.ld rb (o + 1) = some (.int .i64 P.s) ∧ M.ld rb (o + 2) = some (.int .i64 P.size) ∧ M.ld rb (o + 3) = some (.slice tp P.tb.length 0) ∧ M.ld rb (o + 4) = some (.int .i64 σ.fr) ∧ M.ld rb (o + 5) = some (.int .i64 σ.to) ∧ M.ld rb (o + 6) = some (.slice D.pp σ.pl.length D.pc)) ∧
    M.ld rb (o + 10) = some (.slice D.q σ.es.length D.qc) ∧ M.ld rb (o + 11) = some (.slice D.kp σ.ks.length D.kc) ∧ M.ld rb (o + 12) = some (.bool σ.has) ∧ M.ld rb (o + 29) = some (.bool σ.over) ∧ M.ld rb (o + 30) = some (.int .i64 (σ.lost : Int)) :=
  ⟨⟨h.hd.ld0 rfl, h.hd.ld 1 rfl, h.hd.ld 2 rfl, h.hd.ld 3 rfl, h.hd.ld 4 rfl, h.hd.ld 5 rfl, h.hd.ld 6 rfl⟩, h.hd.ld 10 rfl, h.hd.ld 11 rfl, h.hd.ld 12 rfl, h.hd.ld 29 rfl, h.hd.ld 30 rfl⟩
theorem ddone (h : IsD ρ k N P tp M rb o A Z D σ) : LL.call 17 [.pointer (some ⟨rb, o, none⟩)] M = some (.bool (doneW σ), M) := by
  rw [L_call17, E17]
  obtain ⟨⟨l0, l1, l2, l3, l4, l5, l6⟩, l10, l11, l12, l29, l30⟩ := h.at
  have l10' : M.ld rb (o + 7 + 3) = some (.slice D.q σ.es.length D.qc) := l10
  have em : ∀ {α : Type} (l : List α), (Int.ofNat l.length == 0) = l.isEmpty := fun l => by cases l <;> simp <;> omega
  simp only
  rw [bLB l12]
  unfold doneW
  cases σ.has with
  | true => rfl
  | false =>
    rw [ifNF, bLS l11]
    simp only [em]
    cases σ.ks.isEmpty with
    | false => rfl
    | true =>
      rw [ifT, bLS l6]
      simp only [em]
      cases σ.pl.isEmpty with
      | false => rfl
      | true =>
        rw [ifT, bLI l4, bLI l5]
        cases decide (σ.fr ≥ σ.to) with
        | false => rfl
        | true =>
          rw [ifT, bLB l29]
          cases σ.over with
          | false => rfl
          | true =>
            rw [ifT, bLS l10']
            simp only [em]
            rfl
end
abbrev OursT (k : Nat) : Nat × Nat → Prop := fun c => c.1 = k ∨ c = (1, 0) ∨ c = (1, 9)
theorem ours_t {k : Nat} : ∀ c, Ours k c → OursT k c := fun c h => h.elim .inl (fun h => .inr (.inl h))
theorem mine_t {k : Nat} : ∀ c, Mine k c → OursT k c := fun c h => .inl h
theorem bA5 {β : Type} (a b c d e : Value) (f : List Value → Option β) : Option.bind (aggOf? 5 (.agg #[a, b, c, d, e])) f = f [a, b, c, d, e] := rfl
theorem bB4 {β : Type} (x y z w : Value) (b : Bool) (l : List Value) (f : Bool → Option β) : Option.bind (boolOf? ((x :: y :: z :: w :: .bool b :: l)[4]?)) f = f b := bB b f
theorem ev_pass {M : AMem} {x4 : Nat} {cs : List Value} (e : Ev) (h4 : Cells M x4 cs) (hl : cs.length = 5) :
    ∃ M', (Option.bind (aggOf? 5 (Value.agg (encV e).toArray)) fun cs_4 =>
 (Option.bind (intOf? .i64 (cs_4[0]?)) fun x_5 =>
 (Option.bind (intOf? .i64 (cs_4[1]?)) fun x_6 =>
 (Option.bind (intOf? .i64 (cs_4[2]?)) fun x_7 =>
 (Option.bind (boolOf? (cs_4[3]?)) fun q_8 =>
 (Option.bind (boolOf? (cs_4[4]?)) fun q_9 =>
 (Option.bind (AMem.wr M x4 0 [.int .i64 x_5, .int .i64 x_6, .int .i64 x_7, .bool q_8, .bool q_9]) fun M_10 =>
 (Option.bind (intOf? .i64 (AMem.ld M_10 x4 0)) fun x_11 =>
 (Option.bind (intOf? .i64 (AMem.ld M_10 x4 1)) fun x_12 =>
 (Option.bind (intOf? .i64 (AMem.ld M_10 x4 2)) fun x_13 =>
 (Option.bind (boolOf? (AMem.ld M_10 x4 3)) fun q_14 =>
 (Option.bind (boolOf? (AMem.ld M_10 x4 4)) fun q_15 =>
 some (Value.agg #[.int .i64 x_11, .int .i64 x_12, .int .i64 x_13, .bool q_14, .bool q_15], M_10))))))))))))) = some (Value.agg (encV e).toArray, M') ∧ Same M M' [x4] := by
  obtain ⟨a, b, c, d, f⟩ := e
  obtain ⟨M', w1, w2, _, _, z0, z1, z2, z3, z4⟩ := ev_tell h4 hl a b c d f
  refine ⟨M', ?_, w2⟩
  have ee : (Value.agg (encV ⟨a, b, c, d, f⟩).toArray) = .agg #[.int .i64 a, .int .i64 b, .int .i64 c, .bool d, .bool f] := rfl
  rw [ee, bA5, bI0, bI1, bI2, bB3, bB4, bX w1, bLI z0, bLI z1, bLI z2, bLB z3, bLB z4]
structure PS (k N : Nat) (P : WP) (tp : Option Addr) (tr : List Row) (w mb ma n : Nat) (ρ : Cl) (M : AMem) (B : PB) (σ : WS) (L : List Int) (st wi : Nat) : Prop where
  I : IsP ρ k N P tp M w B σ
  tb : TbOk N M tp tr
  ok : WOk P n σ
  mm : IsMem M mb ma L st wi
  hc : ρ mb = (1, 0) ∧ ρ ma = (1, 0)
  lo : LOk P L
  st : st < 1000000000
  wi : wi < 1000000000
  n : n < 100000000
structure PC (k : Nat) (P : WP) (tr : List Row) : Prop where
  hk : k ≠ 0 ∧ k ≠ 1
  tb : P.tb = tr.map Row.l
  ok : WPok P
def Out (k N : Nat) (P : WP) (tp : Option Addr) (w mb ma st wi : Nat) (ρ : Cl) (M : AMem) (res : Res) (R : WR) : Prop :=
  ∃ M' ρ' B' wi', res = some (.agg (encV R.ev).toArray, M') ∧ IsP ρ' k N P tp M' w B' R.σ ∧ IsMem M' mb ma R.L (st + R.dt) wi' ∧ wi' ≤ wi + 1 ∧ Ext (OursT k) ρ M ρ' M'
section
variable {k N : Nat} {P : WP} {tp : Option Addr} {tr : List Row} {w mb ma n : Nat} {ρ ρ' : Cl} {M M' : AMem} {B B' : PB} {σ : WS} {L : List Int} {st wi : Nat}
theorem Out.pre {res : Res} {R : WR} (h : Out k N P tp w mb ma st wi ρ' M' res R) (e : Ext (OursT k) ρ M ρ' M') : Out k N P tp w mb ma st wi ρ M res R := by
  obtain ⟨M2, ρ2, B2, wi2, a1, a2, a3, a4, a5⟩ := h
  exact ⟨M2, ρ2, B2, wi2, a1, a2, a3, a4, e.trans a5⟩
theorem PS.mine {σ' : WS} (hC : PC k P tr) (h : PS k N P tp tr w mb ma n ρ M B σ L st wi) (hI : IsP ρ' k N P tp M' w B' σ') (e : Ext (Mine k) ρ M ρ' M') (hok : WOk P n σ') : PS k N P tp tr w mb ma n ρ' M' B' σ' L st wi := by
  have n1 : ¬ Mine k (1, 0) := fun h => hC.hk.2 (by exact h.symm)
  obtain ⟨S, t, hS⟩ := e.same
  refine ⟨hI, h.tb.ext e (fun h => hC.hk.1 (by exact h.symm)) h.I.rs.c0, hok, h.mm.same t (hS _ h.mm.hd.lt (by rw [h.hc.1]; exact n1)) (hS _ h.mm.cs.lt (by rw [h.hc.2]; exact n1)), ?_, h.lo, h.st, h.wi, h.n⟩
  exact ⟨by rw [e.col _ h.mm.hd.lt]; exact h.hc.1, by rw [e.col _ h.mm.cs.lt]; exact h.hc.2⟩
theorem tmp_keep {x4 : Nat} {cs : List Value} {K : Nat × Nat → Prop} (h4 : Cells M x4 cs) (h9 : ρ x4 = (1, 9)) (e : Ext K ρ M ρ' M') (hK : ¬ K (1, 9)) : Cells M' x4 cs ∧ ρ' x4 = (1, 9) :=
  ⟨cells_ext h4 e (by rw [h9]; exact hK), by rw [e.col _ h4.lt]; exact h9⟩
theorem out_pass {x4 : Nat} {cs : List Value} {R : WR} (hk : k ≠ 0 ∧ k ≠ 1) {wi' : Nat} (hI : IsP ρ' k N P tp M' w B' R.σ) (hm : IsMem M' mb ma R.L (st + R.dt) wi') (hwi : wi' ≤ wi + 1) (e : Ext (OursT k) ρ M ρ' M') (h4 : Cells M' x4 cs) (h9 : ρ' x4 = (1, 9)) (hc : ρ' mb = (1, 0) ∧ ρ' ma = (1, 0))
    {res : Res} {M2 : AMem} (hr : res = some (.agg (encV R.ev).toArray, M2)) (s : Same M' M2 [x4]) : Out k N P tp w mb ma st wi ρ M res R := by
  have x : Ext (fun c => c = (1, 9)) ρ' M' ρ' M2 := Ext.of s (fun z hz _ => by simp only [List.mem_singleton] at hz; rw [hz]; exact h9)
  have n4 : ∀ z, ρ' z = (1, 0) → z ∉ [x4] := fun z hz hm => by
    simp only [List.mem_singleton] at hm
    rw [hm, h9] at hz; cases hz
  exact ⟨M2, ρ', B', wi', hr, hI.ext x (fun r h => hk.2 (congrArg Prod.fst h)) (fun h => by cases h), hm.same s (n4 _ hc.1) (n4 _ hc.2), hwi, e.trans (x.mono (fun c h => .inr (.inr h)))⟩
theorem nours {k : Nat} (hk : k ≠ 0 ∧ k ≠ 1) : ¬ Ours k (1, 9) := fun h => by
  rcases h with h | h
  · exact hk.2 h.symm
  · cases h
theorem nmine {k : Nat} (hk : k ≠ 0 ∧ k ≠ 1) (r : Nat) : ¬ Mine k (1, r) := fun h => hk.2 (by exact h.symm)
theorem col_keep {K : Nat × Nat → Prop} (hm : IsMem M mb ma L st wi) (hc : ρ mb = (1, 0) ∧ ρ ma = (1, 0)) (e : Ext K ρ M ρ' M') : ρ' mb = (1, 0) ∧ ρ' ma = (1, 0) :=
  ⟨by rw [e.col _ hm.hd.lt]; exact hc.1, by rw [e.col _ hm.cs.lt]; exact hc.2⟩
theorem stA {x4 : Nat} {cs : List Value} (hC : PC k P tr) (h : PS k N P tp tr w mb ma n ρ M B σ L st wi) (h4 : Cells M x4 cs) (hl : cs.length = 5) (h9 : ρ x4 = (1, 9)) (hh : σ.has = true) :
    Out k N P tp w mb ma st wi ρ M (P15_16 LL (some ⟨w, 0, none⟩) (some ⟨mb, 0, none⟩) x4 M) (flushW L σ) := by
  rw [P15_16_eq LL L_loop]
  have l9 := h.I.at.2.1
  rw [hh, if_pos rfl] at l9
  have hn := h.n
  have hlo := h.ok.lo
  obtain ⟨M1, ρ1, wi', a1, a2, a3, a4, a5⟩ := pflushes hC.hk h.I hh h.mm h.hc h.st h.wi ⟨(h.ok.fl hh).1, by omega⟩ (fov_of h.lo h.ok hh)
  obtain ⟨k4, k9⟩ := tmp_keep h4 h9 a5 (nours hC.hk)
  obtain ⟨M2, e2, s2⟩ := ev_pass (flushW L σ).ev k4 hl
  simp only [Nat.zero_add]
  rw [bLP l9, show (!Option.isNone (some (⟨B.f, 0, none⟩ : Addr))) = true from rfl, ifT, bX a1]
  exact out_pass hC.hk a2 a3 a4 (a5.mono ours_t) k4 k9 (col_keep h.mm h.hc a5) e2 s2
theorem stB {x4 : Nat} {cs : List Value} (hC : PC k P tr) (h : PS k N P tp tr w mb ma n ρ M B σ L st wi) (h4 : Cells M x4 cs) (hl : cs.length = 5) (h9 : ρ x4 = (1, 9)) (hh : σ.has = false) (hks : σ.ks ≠ []) :
    Out k N P tp w mb ma st wi ρ M (P15_16 LL (some ⟨w, 0, none⟩) (some ⟨mb, 0, none⟩) x4 M) (flushW L (beginW P σ)) := by
  rw [P15_16_eq LL L_loop]
  have l9 := h.I.at.2.1
  have l8 := h.I.at.1.2.2.2.2.2.2.2.2
  rw [hh] at l9
  obtain ⟨k0, kr, ek⟩ : ∃ k0 kr, σ.ks = k0 :: kr := by
    cases hx : σ.ks with
    | nil => exact absurd hx hks
    | cons k0 kr => exact ⟨k0, kr, rfl⟩
  obtain ⟨M1, ρ1, B1, a1, a2, a3⟩ := pbegin hC.hk.1 h.I ek hh (h.ok.ks.2 k0 (by rw [ek]; simp))
  obtain ⟨k4, k9⟩ := tmp_keep h4 h9 a3 (nmine hC.hk 9)
  have hS := h.mine hC a2 a3 (beginW_ok hC.ok h.ok)
  simp only [Nat.zero_add]
  rw [bLP l9, show (!Option.isNone (if false = true then some (⟨B.f, 0, none⟩ : Addr) else none)) = false from rfl, ifF, bLS l8, ifD (by simp only [ofN, ek, List.length_cons]; omega), bX a1]
  exact (stA hC hS k4 hl k9 rfl).pre (a3.mono mine_t)
theorem pstripes (hC : PC k P tr) (h : PS k N P tp tr w mb ma n ρ M B σ L st wi) (hne : σ.es ≠ []) :
    ∃ M1 M2 ρ' B' o oc, LL.call 40 [bp B.b] M = some (.slice o (strs P.s σ.es P.s.toNat).length oc, M1) ∧ M1.wr w 8 [.slice o (strs P.s σ.es P.s.toNat).length oc] = some M2 ∧ PS k N P tp tr w mb ma n ρ' M2 B' (stripesW P σ) L st wi ∧ Ext (Mine k) ρ M ρ' M2 := by
  obtain ⟨r1, r2, r3, r4⟩ := hC.ok.rt
  have hss := stripes_eq (p := P.p) (s := P.s) (by omega) (fun e he => h.ok.es.2 e he)
  have hsn : strs P.s σ.es P.s.toNat ≠ [] := stripesW_ne hC.ok h.ok hne
  obtain ⟨M1, o, oc, ks, a1, a2, a3, a4, a5, a6⟩ := stripes_all h.I.rs.bf
  rw [hss] at a4
  subst a4
  obtain ⟨b, cs, rfl, k1, k2⟩ := a6 (List.length_pos_iff.2 hsn)
  have x1 : Ext (fun _ => False) ρ M (upd ρ M.length fun _ => (k, 2)) M1 := Ext.upd a2 (fun z hz => by simp at hz) _
  have hb : M.length ≤ b := a3 b (by simp)
  have hc : (upd ρ M.length fun _ => (k, 2)) b = (k, 2) := upd_ge hb
  generalize (upd ρ M.length fun _ => (k, 2)) = ρ1 at x1 hc
  have hI1 := h.I.ext x1 (fun _ h => h) (fun h => h)
  have hv : View encI 1 M1 (some ⟨b, 0, none⟩) (strs P.s σ.es P.s.toNat) := fun _ => by
    refine ⟨b, 0, cs, rfl, k1, fun i x j hi hj => ?_⟩
    obtain rfl : j = 0 := by omega
    rw [Nat.zero_add, Nat.mul_one, Nat.add_zero, k2 i (ges.1 hi).1, ints_get, hi]; rfl
  have hcol : Col M1 ρ1 (blk (some (⟨b, 0, none⟩ : Addr))) (k, 2) := fun z hz => by
    simp only [blk_some, List.mem_singleton] at hz
    subst hz
    exact ⟨k1.lt, hc⟩
  obtain ⟨M2, w1, w2, w3, w4, w5⟩ := hI1.put hC.hk.1 8 [.slice (some ⟨b, 0, none⟩) (strs P.s σ.es P.s.toNat).length oc] (by show 8 + 1 ≤ 14; decide)
  have e2 : Ext (Mine k) ρ M ρ1 M2 := (x1.mono (fun _ h => h.elim)).trans (w3.mono mine_of)
  have hI2 : IsP ρ1 k N P tp M2 w { B with kp := some ⟨b, 0, none⟩, kc := oc } (stripesW P σ) := by
    obtain ⟨S, t, hS⟩ := w3.same
    exact ⟨w2, hI1.cw, w4.bf, w4.cb, w4.pd, w4.cp, hv.same t (Ext.free (K := fun c => c = (k, 0)) hcol hS (k0ne (by decide))), hcol.ext w3, w4.fl, w4.cl, w4.lt, w4.c0⟩
  exact ⟨M1, M2, ρ1, _, _, oc, a1, w1, h.mine hC hI2 e2 (stripesW_ok hC.ok h.ok), e2⟩
theorem stAll {x4 : Nat} {cs : List Value} (hC : PC k P tr) (h : PS k N P tp tr w mb ma n ρ M B σ L st wi) (h4 : Cells M x4 cs) (hl : cs.length = 5) (h9 : ρ x4 = (1, 9)) :
    Out k N P tp w mb ma st wi ρ M (P15_16 LL (some ⟨w, 0, none⟩) (some ⟨mb, 0, none⟩) x4 M) (stepW P L σ) := by
  unfold stepW
  by_cases hh : σ.has = true
  · rw [if_pos hh]; exact stA hC h h4 hl h9 hh
  rw [if_neg hh]
  have hh' : σ.has = false := by simpa using hh
  by_cases hks : σ.ks ≠ []
  · rw [if_pos hks]; exact stB hC h h4 hl h9 hh' hks
  rw [if_neg hks]
  have hks' : σ.ks = [] := by simpa using hks
  have hg := gathW_ok hC.ok h.ok
  have hge := gathW_ne hC.ok h.ok
  have hgd : gathW P σ = { σ with pl := (putAll P.room σ.pl σ.es).1, es := (putAll P.room σ.pl σ.es).2 } := rfl
  rw [← hgd]
  simp only
  rw [P15_16_eq LL L_loop]
  have l9 := h.I.at.2.1
  have l8 := h.I.at.1.2.2.2.2.2.2.2.2
  rw [hh'] at l9
  obtain ⟨M1, ρ1, B1, a1, a2, a3⟩ := pgath hC.hk.1 h.I h.ok.pl.2
  rw [← hgd] at a2
  obtain ⟨k4, k9⟩ := tmp_keep h4 h9 a3 (nmine hC.hk 9)
  have hS := h.mine hC a2 a3 hg
  obtain ⟨⟨m0, m1, m2, m3, m4, m5, m6, m7, m8⟩, m9, m12, m13⟩ := hS.I.at
  simp only [Nat.zero_add]
  rw [bLP l9, show (!Option.isNone (if false = true then some (⟨B.f, 0, none⟩ : Addr) else none)) = false from rfl, ifF, bLS l8, ifDn (by simp [hks']), bX a1, bB]
  refine Out.pre ?_ (a3.mono mine_t)
  have hpl : (putAll P.room σ.pl σ.es).1 = (gathW P σ).pl := rfl
  rw [hpl]
  have hgk : (gathW P σ).ks = [] := hks'
  have hgh : (gathW P σ).has = false := hh'
  generalize gathW P σ = σ1 at hg hge hS m0 m1 m2 m3 m4 m5 m6 m7 m8 m9 m12 m13 hgk hgh ⊢
  by_cases hp : σ1.pl ≠ []
  · rw [if_pos hp, show (!σ1.pl.isEmpty) = true by cases hx : σ1.pl with | nil => exact absurd hx hp | cons => rfl, ifT]
    obtain ⟨M2, M3, ρ3, B3, o, oc, b1, b2, b3, b4⟩ := pstripes hC hS (hge hp)
    obtain ⟨j4, j9⟩ := tmp_keep k4 k9 b4 (nmine hC.hk 9)
    rw [bLP m7, bX b1, bS, bX b2]
    exact (stB hC b3 j4 hl j9 hgh (stripesW_ne hC.ok hg (hge hp))).pre (b4.mono mine_t)
  rw [if_neg hp]
  have hp' : σ1.pl = [] := by simpa using hp
  rw [hp', show (!List.isEmpty ([] : List Sp)) = false from rfl, ifF, bLI m4, bLI m5]
  by_cases hf : σ1.fr < σ1.to
  · rw [ifD hf, if_pos hf]
    have hfr := hg.fr
    obtain ⟨M2, ρ2, B2, b1, b2, b3⟩ := ptraces hC.hk hS.I hS.tb hC.tb ⟨hfr.1, by omega⟩ hC.ok.cf.a1
    obtain ⟨j4, j9⟩ := tmp_keep k4 k9 b3 (nmine hC.hk 9)
    obtain ⟨M3, e2, s2⟩ := ev_pass ⟨2, σ1.fr, 0, false, false⟩ j4 hl
    have b1' : LL.call 41 [pt w] M1 = some (.agg (encV ⟨2, σ1.fr, 0, false, false⟩).toArray, M2) := b1
    rw [bX b1']
    obtain ⟨S, t, hSS⟩ := b3.same
    have mm2 : IsMem M2 mb ma L (st + 0) wi := hS.mm.same t (hSS _ hS.mm.hd.lt (by rw [hS.hc.1]; exact nmine hC.hk 0)) (hSS _ hS.mm.cs.lt (by rw [hS.hc.2]; exact nmine hC.hk 0))
    exact out_pass (R := ⟨{ σ1 with pl := P.tb.getD σ1.fr.toNat [], fr := σ1.fr + 1 }, L, ⟨2, σ1.fr, 0, false, false⟩, 0⟩) hC.hk b2 mm2 (by omega) (b3.mono mine_t) j4 j9 (col_keep hS.mm hS.hc b3) e2 s2
  rw [ifDn hf, if_neg hf]
  cases ho : σ1.over with
  | false =>
    obtain ⟨c1, c2, c3, c4⟩ := hg.cl ho
    have hn := h.n
    have hlo := hg.lo
    have hL : L ≠ [] := fun e => by
      have := h.lo.1
      rw [e] at this
      obtain ⟨r1, r2, r3, r4⟩ := hC.ok.rt
      simp at this; omega
    obtain ⟨M2, ρ2, B2, wi', b1, b2, b3, b4, b5⟩ := pclaims hC.hk hS.I ho hS.mm hS.hc hS.st hS.wi ⟨c1, by omega⟩ hC.ok.cf ⟨c3, by omega⟩ c2 hL
    obtain ⟨j4, j9⟩ := tmp_keep k4 k9 b5 (nours hC.hk)
    obtain ⟨M3, e2, s2⟩ := ev_pass (claimW P L σ1).ev j4 hl
    unfold clC at m12
    rw [ho] at m12
    rw [bLP m12, show (!Option.isNone (if false = true then none else some (⟨B1.c, 0, none⟩ : Addr))) = true from rfl, ifT, bX b1]
    exact out_pass hC.hk b2 b3 b4 (b5.mono ours_t) j4 j9 (col_keep hS.mm hS.hc b5) e2 s2
  | true =>
    unfold clC at m12
    rw [ho] at m12
    rw [bLP m12, show (!Option.isNone (if true = true then none else some (⟨B1.c, 0, none⟩ : Addr))) = false from rfl, ifF, bLP m7, bX (blen_spec hS.I.rs.bf), bI]
    by_cases he : σ1.es ≠ []
    · have hlen := List.length_pos_iff.2 he
      obtain ⟨M2, M3, ρ3, B3, o, oc, b1, b2, b3, b4⟩ := pstripes hC hS he
      obtain ⟨j4, j9⟩ := tmp_keep k4 k9 b4 (nmine hC.hk 9)
      rw [ifNT, if_pos he, ifD (show (σ1.es.length : Int) > 0 by omega), bLP m7, bX b1, bS, bX b2]
      exact (stB hC b3 j4 hl j9 hgh (stripesW_ne hC.ok hg he)).pre (b4.mono mine_t)
    · have he' : σ1.es = [] := by simpa using he
      rw [ifNT, if_neg he, ifDn (show ¬ (σ1.es.length : Int) > 0 by rw [he']; simp), P15_58_eq]
      obtain ⟨M', w1, w2, _, _, z0, z1, z2, z3, z4⟩ := ev_tell k4 hl 0 0 0 false false
      rw [bX w1, bLI z0, bLI z1, bLI z2, bLB z3, bLB z4]
      exact out_pass (R := ⟨σ1, L, .zero, 0⟩) hC.hk hS.I hS.mm (by omega) (Ext.refl _ _ _) k4 k9 hS.hc rfl w2
theorem pstep (hC : PC k P tr) (h : PS k N P tp tr w mb ma n ρ M B σ L st wi) : Out k N P tp w mb ma st wi ρ M (LL.call 15 [pt w, pt mb] M) (stepW P L σ) := by
  rw [L_call15, E15]
  have s0 := same_app M [AObj.cells ev0 ⟨false, 0⟩]
  have g0 := cells_new M ev0 0
  generalize M ++ [AObj.cells ev0 ⟨false, 0⟩] = M0 at s0 g0 ⊢
  obtain ⟨ρ0, e0, hx9⟩ := tmp_new (ρ := ρ) s0
  have em := e0.mono (K' := Mine k) (fun _ h => h.elim)
  have h0 := h.mine hC (h.I.ext e0 (fun _ h => h) (fun h => h)) em h.ok
  obtain ⟨⟨l0, l1, _⟩, _⟩ := h0.I.at
  obtain ⟨_, ks⟩ := size_spec P.p P.s
  rw [if_pos hC.ok.rt] at ks
  have hck : ∀ x, chkOk [(9, 5)] [(9, x)] [(5, (M0, M0))] = true := fun x => by simp [chkOk, List.lookup]
  rw [bX (pgiven h0.I), bB, ifNT, bX (len_spec h0.mm), bI]
  simp only [Nat.zero_add, hck, if_true]
  rw [bLI l0, bLI l1, bX ks, bI]
  have hb : ((L.length : Int) != 1 + 2 * P.s + 3 * P.p) = false := by rw [h.lo.1]; simp
  rw [hb, ifF, P15_14_eq]
  exact (stAll hC h0 g0 rfl hx9).pre (em.mono mine_t)
end
abbrev OursD (k t : Nat) : Nat × Nat → Prop := fun c => c.1 = k ∨ c = (1, 1) ∨ c = (1, 2) ∨ (c.1 = 1 ∧ 8 ≤ c.2 ∧ c.2 ≤ t)
structure DS (k N : Nat) (P : WP) (tp : Option Addr) (tr : List Row) (rb o : Nat) (A Z : List Value) (mr : Nat) (p : Option Addr) (c n : Nat) (ρ : Cl) (M : AMem) (D : DB) (σ : WS) (L : List Int) (st wi : Nat) : Prop where
  I : IsD ρ k N P tp M rb o A Z D σ
  tb : TbOk N M tp tr
  ok : WOk P n σ
  mm : IsRef M mr p c L st wi
  hc : ρ mr = (1, 2) ∧ Col M ρ (blk p) (1, 2)
  lo : LOk P L
  st : st < 1000000000
  wi : wi < 1000000000
  n : n < 100000000
def OutD (t k N : Nat) (P : WP) (tp : Option Addr) (rb o : Nat) (A Z : List Value) (mr : Nat) (p : Option Addr) (c st wi : Nat) (ρ : Cl) (M : AMem) (res : Res) (R : WR) : Prop :=
  ∃ M' ρ' D' wi', res = some (.agg (encV R.ev).toArray, M') ∧ IsD ρ' k N P tp M' rb o A Z D' R.σ ∧ IsRef M' mr p c R.L (st + R.dt) wi' ∧ wi' ≤ wi + 1 ∧ Ext (OursD k t) ρ M ρ' M'
section
variable {t k N : Nat} {P : WP} {tp : Option Addr} {tr : List Row} {rb o : Nat} {A Z : List Value} {mr : Nat} {p : Option Addr} {c n : Nat} {ρ ρ' : Cl} {M M' : AMem} {D D' : DB} {σ σ' : WS} {L : List Int} {st wi : Nat}
theorem OutD.pre {res : Res} {R : WR} (h : OutD t k N P tp rb o A Z mr p c st wi ρ' M' res R) (e : Ext (OursD k t) ρ M ρ' M') : OutD t k N P tp rb o A Z mr p c st wi ρ M res R := by
  obtain ⟨M2, ρ2, B2, wi2, a1, a2, a3, a4, a5⟩ := h
  exact ⟨M2, ρ2, B2, wi2, a1, a2, a3, a4, e.trans a5⟩
theorem ref_ext {K : Nat × Nat → Prop} (h : IsRef M mr p c L st wi) (hc : ρ mr = (1, 2) ∧ Col M ρ (blk p) (1, 2)) (e : Ext K ρ M ρ' M') (hK : ¬ K (1, 2)) : IsRef M' mr p c L st wi := by
  obtain ⟨S, t, hS⟩ := e.same
  exact h.same t (hS _ h.hd.lt (by rw [hc.1]; exact hK)) (Ext.free hc.2 hS hK)
theorem refcol {K : Nat × Nat → Prop} (h : IsRef M mr p c L st wi) (hc : ρ mr = (1, 2) ∧ Col M ρ (blk p) (1, 2)) (e : Ext K ρ M ρ' M') : ρ' mr = (1, 2) ∧ Col M' ρ' (blk p) (1, 2) :=
  ⟨by rw [e.col _ h.hd.lt]; exact hc.1, hc.2.ext e⟩
abbrev MineD (k : Nat) : Nat × Nat → Prop := fun c => c.1 = k ∨ c = (1, 1)
theorem mine_d {k t : Nat} : ∀ c, MineD k c → OursD k t c := fun c h => h.elim .inl (fun h => .inr (.inl h))
theorem row_m {k : Nat} : ∀ c : Nat × Nat, c = (1, 1) → MineD k c := fun c h => .inr h
theorem nmineD {k r : Nat} (hk : k ≠ 0 ∧ k ≠ 1) (hr : r ≠ 1) : ¬ MineD k (1, r) := fun h => by
  rcases h with h | h
  · exact hk.2 h.symm
  · exact hr (congrArg Prod.snd h)
theorem nmineD0 {k : Nat} (hk : k ≠ 0 ∧ k ≠ 1) : ¬ MineD k (0, 0) := fun h => by
  rcases h with h | h
  · exact hk.1 h.symm
  · cases h
theorem DS.mine (hC : PC k P tr) (h : DS k N P tp tr rb o A Z mr p c n ρ M D σ L st wi) (hI : IsD ρ' k N P tp M' rb o A Z D' σ') (e : Ext (MineD k) ρ M ρ' M') (hok : WOk P n σ') : DS k N P tp tr rb o A Z mr p c n ρ' M' D' σ' L st wi :=
  ⟨hI, h.tb.ext e (nmineD0 hC.hk) h.I.rs.c0, hok, ref_ext h.mm h.hc e (nmineD hC.hk (by decide)), refcol h.mm h.hc e, h.lo, h.st, h.wi, h.n⟩
theorem outd_tell {x4 : Nat} {R : WR} (ht : 8 ≤ t) (hk : k ≠ 0 ∧ k ≠ 1) {wi' : Nat} (hI : IsD ρ' k N P tp M' rb o A Z D' R.σ) (hm : IsRef M' mr p c R.L (st + R.dt) wi') (hwi : wi' ≤ wi + 1) (e : Ext (OursD k t) ρ M ρ' M') (h9 : ρ' x4 = (1, t)) (hc : ρ' mr = (1, 2) ∧ Col M' ρ' (blk p) (1, 2))
    {res : Res} {M2 : AMem} (hr : res = some (.agg (encV R.ev).toArray, M2)) (s : Same M' M2 [x4]) : OutD t k N P tp rb o A Z mr p c st wi ρ M res R := by
  have x : Ext (fun c => c = (1, t)) ρ' M' ρ' M2 := Ext.of s (fun z hz _ => by simp only [List.mem_singleton] at hz; rw [hz]; exact h9)
  exact ⟨M2, ρ', D', wi', hr, hI.ext x (fun r _ h => hk.2 (congrArg Prod.fst h)) (fun h => by cases h) (fun h => (by have := congrArg Prod.snd h; simp at this; omega)), ref_ext hm hc x (fun h => (by have := congrArg Prod.snd h; simp at this; omega)), hwi, e.trans (x.mono (fun c h => .inr (.inr (.inr ⟨by rw [h], by rw [h]; exact ht, by rw [h]; exact Nat.le_refl _⟩))))⟩
theorem tmp_newt (t : Nat) {M0 : AMem} (s0 : Same M M0 []) : ∃ ρ', Ext (fun _ => False) ρ M ρ' M0 ∧ ρ' M.length = (1, t) :=
  ⟨upd ρ M.length fun _ => (1, t), Ext.upd s0 (fun z hz => by simp at hz) _, upd_ge (Nat.le_refl _)⟩
theorem tmp_keept {x4 : Nat} {cs : List Value} {K : Nat × Nat → Prop} (h4 : Cells M x4 cs) (h9 : ρ x4 = (1, t)) (e : Ext K ρ M ρ' M') (hK : ¬ K (1, t)) : Cells M' x4 cs ∧ ρ' x4 = (1, t) :=
  ⟨cells_ext h4 e (by rw [h9]; exact hK), by rw [e.col _ h4.lt]; exact h9⟩
theorem dflA {x4 : Nat} {cs : List Value} (ht : 8 ≤ t) (hC : PC k P tr) (h : DS k N P tp tr rb o A Z mr p c n ρ M D σ L st wi) (h4 : Cells M x4 cs) (hl : cs.length = 5) (h9 : ρ x4 = (1, t)) (hh : σ.has = true) :
    OutD t k N P tp rb o A Z mr p c st wi ρ M (P43_18 LL (some ⟨rb, o, none⟩) (some ⟨mr, 0, none⟩) x4 M) (flushW L σ) := by
  rw [P43_18_eq]
  have hk := hC.hk
  obtain ⟨f1, f2, f3, f4, f5⟩ := h.I.rs.fl hh
  obtain ⟨g1, g2, g3, g4⟩ := h.ok.fl hh
  have hov := fov_of h.lo h.ok hh
  have hT : fT L σ.fs = 1 := by simp [fT, hov]
  have hn := h.n
  have hlo := h.ok.lo
  obtain ⟨m1, m2, m3, m4⟩ := nx_mono L σ.fs
  have hnx : (fS L σ.fs).nx ≤ σ.fs.nx + 1 := by unfold fS; split <;> (try split) <;> (try split) <;> simp
  have e0 : encD P tp D σ = (d0 P tp D σ ++ d7 P D σ ++ (d11 D σ ++ [.int .i64 σ.st, .slice D.ep σ.en.length D.ec])) ++ encRf (rfOf D σ) ++ (D.cs.l ++ d29 σ) := by
    unfold encD; rw [f1]; rfl
  have md := h.I.hd
  rw [e0] at md
  have md15 := md.part (j := 15) rfl
  have q1 : M.ld rb (o + 15 + 1) = some (.slice (some ⟨D.z, σ.fs.nx * 2, none⟩) (σ.fs.adds.length - σ.fs.nx) D.zc) := md15.ld 1 rfl
  have q5 : M.ld rb (o + 15 + 5) = some (.int .i64 (σ.fs.lost : Int)) := md15.ld 5 rfl
  have ne1 : rb ≠ mr ∧ rb ∉ blk p := ⟨fun e => (by have := h.I.cw; rw [e, h.hc.1] at this; cases this), fun hm => (by have := (h.hc.2 _ hm).2; rw [h.I.cw] at this; cases this)⟩
  have ne2 : (rfOf D σ).z ≠ rb ∧ (rfOf D σ).z ≠ mr ∧ (rfOf D σ).z ∉ blk p := by
    have f3' : ρ (rfOf D σ).z = (k, 3) := f3
    exact ⟨fun e => by rw [e, h.I.cw] at f3'; exact hk.2 (congrArg Prod.fst f3').symm, fun e => by rw [e, h.hc.1] at f3'; exact hk.2 (congrArg Prod.fst f3').symm, fun hm => by rw [(h.hc.2 _ hm).2] at f3'; exact hk.2 (congrArg Prod.fst f3').symm⟩
  have hst := h.st
  have hwi := h.wi
  obtain ⟨M1, zc', b1, b2, b3, b4⟩ := rf_step md15 f2 (by show σ.fs.nx ≤ σ.fs.adds.length; omega) (by show σ.fs.adds.length ≤ _; omega) h.mm (by omega) (by omega) (by show σ.fs.lost < _; omega) ne1 ne2
  have b1' : LL.call 72 [.pointer (some ⟨rb, o + 15, none⟩), pt mr] M = some (.bool (!fOver L σ.fs), M1) := b1
  have b3' : IsRef M1 mr p c (fL L σ.fs) (st + fT L σ.fs) (wi + fW L σ.fs) := b3
  have hD1 : (D.js.l.take 2) = [.int .i64 σ.st, .slice D.ep σ.en.length D.ec] := by rw [f1]; rfl
  have md1 : Mid M1 rb o A (encD P tp { D with zc := zc', js := jobV { D with zc := zc' } { σ with fs := fS L σ.fs } } { σ with fs := fS L σ.fs }) Z := b2.whole rfl
  have x1 : Ext (fun c => c = (1, 1) ∨ c = (1, 2)) ρ M ρ M1 := Ext.of b4 (fun z hz _ => by
    rcases List.mem_cons.1 hz with rfl | hz
    · exact .inl h.I.cw
    · rcases List.mem_cons.1 hz with rfl | hz
      · exact .inr h.hc.1
      · exact .inr (h.hc.2 z hz).2)
  have nk : ∀ r, ¬ (fun c : Nat × Nat => c = (1, 1) ∨ c = (1, 2)) (k, r) := fun r hx => by
    rcases hx with hx | hx <;> exact hk.2 (congrArg Prod.fst hx)
  have nz : ¬ (fun c : Nat × Nat => c = (1, 1) ∨ c = (1, 2)) (0, 0) := fun hx => by rcases hx with hx | hx <;> cases hx
  have n9 : ¬ (fun c : Nat × Nat => c = (1, 1) ∨ c = (1, 2)) (1, t) := fun hx => by rcases hx with hx | hx <;> (have := congrArg Prod.snd hx; simp at this; omega)
  have r1 := h.I.rs.ext x1 (fun r _ => nk r) nz
  obtain ⟨u1, u2, u3, u4, u5⟩ := r1.fl hh
  have hI1 : IsD ρ k N P tp M1 rb o A Z { D with zc := zc', js := jobV { D with zc := zc' } { σ with fs := fS L σ.fs } } { σ with fs := fS L σ.fs } :=
    ⟨md1, h.I.cw, r1.sl, r1.cq, r1.pd, r1.cp, r1.kv, r1.ck, fun _ => ⟨rfl, by show Rd M1 D.z ((fS L σ.fs).adds.flatMap encA); rw [m4]; exact u2, u3, u4, u5⟩, r1.cl, r1.lt, r1.c0⟩
  have l30 := hI1.at.2.2.2.2.2
  have l20 : M1.ld rb (o + 15 + 5) = some (.int .i64 ((fS L σ.fs).lost : Int)) := hI1.hd.ld 20 rfl
  simp only at l30
  have e1 : IntKind.wrap .i64 ((σ.lost : Int) + ((fS L σ.fs).lost : Int)) = (σ.lost : Int) + ((fS L σ.fs).lost : Int) := w64 (by omega)
  have e2 : IntKind.wrap .i64 ((σ.lost : Int) + ((fS L σ.fs).lost : Int) - (σ.fs.lost : Int)) = ((σ.lost + (fS L σ.fs).lost - σ.fs.lost : Nat) : Int) := by rw [w64 (by omega)]; omega
  simp only
  rw [bLS q1, bLI q5, bX b1', bB, bLI l30, bLI l20, e1, e2]
  obtain ⟨M2, v1, v2, v3, v4, v5⟩ := hI1.put hk 30 [.int .i64 ((σ.lost + (fS L σ.fs).lost - σ.fs.lost : Nat) : Int)] (by show 30 + 1 ≤ 31; decide)
  have hI2 : IsD ρ k N P tp M2 rb o A Z { D with zc := zc', js := jobV { D with zc := zc' } { σ with fs := fS L σ.fs } } { σ with fs := fS L σ.fs, lost := σ.lost + (fS L σ.fs).lost - σ.fs.lost } :=
    ⟨v2, h.I.cw, v4.sl, v4.cq, v4.pd, v4.cp, v4.kv, v4.ck, v4.fl, v4.cl, v4.lt, v4.c0⟩
  have l16 : M2.ld rb (o + 15 + 1) = some (.slice (some ⟨D.z, (fS L σ.fs).nx * 2, none⟩) ((fS L σ.fs).adds.length - (fS L σ.fs).nx) zc') := hI2.hd.ld 16 rfl
  rw [bX v1, bLS l16]
  have hend : decide ((Int.ofNat ((fS L σ.fs).adds.length - (fS L σ.fs).nx)) > 0) = !endedF (fS L σ.fs) := by
    unfold endedF
    rw [ofN, m4]
    by_cases z : σ.fs.adds.length = (fS L σ.fs).nx
    · rw [decide_eq_true z, decide_eq_false (by omega)]; rfl
    · rw [decide_eq_false z, decide_eq_true (by omega)]; rfl
  simp only [hend]
  obtain ⟨M3, w1, w2, w3, w4, w5⟩ := hI2.put hk 12 [.bool (!endedF (fS L σ.fs))] (by show 12 + 1 ≤ 31; decide)
  have hI3 : IsD ρ k N P tp M3 rb o A Z { D with zc := zc', js := jobV { D with zc := zc' } { σ with fs := fS L σ.fs } } (flushW L σ).σ :=
    ⟨w2, h.I.cw, w4.sl, w4.cq, w4.pd, w4.cp, w4.kv, w4.ck, fun _ => w4.fl hh, w4.cl, w4.lt, w4.c0⟩
  rw [bX w1, P43_28_eq]
  have l13 : M3.ld rb (o + 13) = some (.int .i64 σ.st) := hI3.hd.ld 13 rfl
  have l17 : M3.ld rb (o + 15 + 2) = some (.int .i64 ((fS L σ.fs).adds.length : Int)) := hI3.hd.ld 17 rfl
  simp only
  rw [bLI l13, bLI l17, m4]
  have t13 : Same M1 M3 [rb] := (v5.trans w5).mono (by simp)
  have x13 : Ext (fun c => c = (1, 1)) ρ M1 ρ M3 := v3.trans w3
  have x03 : Ext (OursD k t) ρ M ρ M3 := (x1.mono (fun c hc => by
    rcases hc with hc | hc
    · exact .inr (.inl hc)
    · exact .inr (.inr (.inl hc)))).trans (x13.mono (fun c hc => .inr (.inl hc)))
  have c4 := cells_ext (cells_ext h4 x1 (by rw [h9]; exact n9)) x13 (by rw [h9]; exact fun hx => (by have := congrArg Prod.snd hx; simp at this; omega))
  have hc1 := refcol h.mm h.hc x1
  have hm3 := ref_ext b3' hc1 x13 (fun hx => by cases hx)
  have hc3 := refcol b3' hc1 x13
  have hW : fW L σ.fs ≤ 1 := by unfold fW; split <;> omega
  have key : ∀ (d : Bool), d = (decide (σ.fs.nx = 0) && decide (0 < (fS L σ.fs).nx)) → ∀ e : Bool, e = endedF (fS L σ.fs) →
      OutD t k N P tp rb o A Z mr p c st wi ρ M (Option.bind (AMem.wr M3 x4 0 [.int .i64 3, .int .i64 0, .int .i64 σ.st, .bool d, .bool e]) fun M_5 =>
 (Option.bind (intOf? .i64 (AMem.ld M_5 x4 0)) fun x_6 =>
 (Option.bind (intOf? .i64 (AMem.ld M_5 x4 1)) fun x_7 =>
 (Option.bind (intOf? .i64 (AMem.ld M_5 x4 2)) fun x_8 =>
 (Option.bind (boolOf? (AMem.ld M_5 x4 3)) fun q_9 =>
 (Option.bind (boolOf? (AMem.ld M_5 x4 4)) fun q_10 =>
 some (.agg #[.int .i64 x_6, .int .i64 x_7, .int .i64 x_8, .bool q_9, .bool q_10], M_5))))))) (flushW L σ) := fun d hd e he => by
    obtain ⟨M4, y1, y2, _, _, z0, z1, z2, z3, z4⟩ := ev_tell c4 hl 3 0 σ.st d e
    rw [bX y1, bLI z0, bLI z1, bLI z2, bLB z3, bLB z4]
    refine outd_tell ht (wi' := wi + fW L σ.fs) (R := flushW L σ) hk hI3 ?_ (by omega) x03 h9 hc3 ?_ y2
    · show IsRef M3 mr p c (fL L σ.fs) (st + 1) _
      rw [← hT]; exact hm3
    · rw [hd, he]; rfl
  have hzero : ((Int.ofNat (σ.fs.adds.length - (fS L σ.fs).nx)) == 0) = endedF (fS L σ.fs) := by
    unfold endedF
    rw [ofN, m4]
    by_cases z : σ.fs.adds.length = (fS L σ.fs).nx
    · rw [decide_eq_true z]; exact beq_iff_eq.2 (by omega)
    · rw [decide_eq_false z]; exact beq_eq_false_iff_ne.2 (by omega)
  rw [hzero]
  by_cases z : σ.fs.nx = 0
  · rw [show ((Int.ofNat (σ.fs.adds.length - σ.fs.nx)) == (σ.fs.adds.length : Int)) = true from beq_iff_eq.2 (by rw [ofN]; omega), ifT]
    refine key _ ?_ _ rfl
    rw [decide_eq_true z, Bool.true_and]
    simp only [ofN, decide_eq_decide]
    omega
  · rw [show ((Int.ofNat (σ.fs.adds.length - σ.fs.nx)) == (σ.fs.adds.length : Int)) = false from beq_eq_false_iff_ne.2 (by rw [ofN]; omega), ifF]
    refine key _ ?_ _ rfl
    rw [decide_eq_false z]; rfl
end
section
variable {k N : Nat} {P : WP} {tp : Option Addr} {tr : List Row} {rb o : Nat} {A Z : List Value} {mr : Nat} {p : Option Addr} {c n : Nat} {ρ ρ' : Cl} {M M' : AMem} {D D' : DB} {σ σ' : WS} {L : List Int} {st wi : Nat}
theorem IsD.db (h : IsD ρ k N P tp M rb o A Z D σ) (hk : k ≠ 0 ∧ k ≠ 1) : IsDb M rb (o + 7) (A ++ d0 P tp D σ) ((d11 D σ ++ D.js.l ++ (D.cs.l ++ d29 σ)) ++ Z) D.q D.qc P.p P.s P.room σ.es :=
  ⟨h.hd.part (j := 7) rfl, h.rs.sl, fun hm => by have := (h.rs.cq _ hm).2; rw [h.cw] at this; exact hk.2 (congrArg Prod.fst this).symm⟩
theorem IsD.buf (h : IsD ρ k N P tp M rb o A Z D σ) (hk : k ≠ 0 ∧ k ≠ 1) {K : Nat × Nat → Prop} (e : Ext K ρ M ρ' M') (hK : ∀ c, K c → c = (1, 1) ∨ c = (k, 1)) {q : Option Addr} {qc : Nat} {es : List En}
    (hb : IsDb M' rb (o + 7) (A ++ d0 P tp D σ) ((d11 D σ ++ D.js.l ++ (D.cs.l ++ d29 σ)) ++ Z) q qc P.p P.s P.room es) (hc : Col M' ρ' (blk q) (k, 1)) : IsD ρ' k N P tp M' rb o A Z { D with q := q, qc := qc } { σ with es := es } := by
  obtain ⟨S, t, hS⟩ := e.same
  have kk : ∀ r, r ≠ 1 → ¬ K (k, r) := fun r hr h => by
    rcases hK _ h with h | h
    · exact hk.2 (congrArg Prod.fst h)
    · exact hr (congrArg Prod.snd h)
  have k0 : ¬ K (0, 0) := fun h => by
    rcases hK _ h with h | h
    · cases h
    · exact hk.1 (congrArg Prod.fst h).symm
  refine ⟨hb.md.whole rfl, by rw [e.col _ h.hd.cs.lt]; exact h.cw, hb.sl, hc, view_arg h.rs.pd h.rs.cp h.rs.lt h.rs.c0 e k0, h.rs.cp, h.rs.kv.same t (Ext.free h.rs.ck hS (kk 2 (by decide))), h.rs.ck.ext e, fun hh => ?_, h.rs.cl, Nat.le_trans h.rs.lt e.le, fun z hz => ?_⟩
  · obtain ⟨a1, a2, a3, a4, a5⟩ := h.rs.fl hh
    exact ⟨a1, rd_ext a2 e (by rw [a3]; exact kk 3 (by decide)), by rw [e.col _ a2.lt, a3], a4.same t (Ext.free a5 hS (kk 4 (by decide))), a5.ext e⟩
  · rw [e.col z (Nat.lt_of_lt_of_le hz h.rs.lt)]; exact h.rs.c0 z hz
theorem dflush_on (hC : PC k P tr) (h : DS k N P tp tr rb o A Z mr p c n ρ M D σ L st wi) (hh : σ.has = true) :
    OutD 8 k N P tp rb o A Z mr p c st wi ρ M (LL.call 43 [.pointer (some ⟨rb, o, none⟩), pt mr] M) (flushW L σ) := by
  rw [L_call43, E43]
  have s0 := same_app M [AObj.cells ev0 ⟨false, 0⟩]
  have g0 := cells_new M ev0 0
  generalize M ++ [AObj.cells ev0 ⟨false, 0⟩] = M0 at s0 g0 ⊢
  obtain ⟨ρ0, e0, hx9⟩ := tmp_newt (ρ := ρ) 8 s0
  have em := e0.mono (K' := MineD k) (fun _ h => h.elim)
  have h0 := h.mine hC (h.I.ext e0 (fun _ _ h => h) (fun h => h) (fun h => h)) em h.ok
  have l12 := h0.I.at.2.2.2.1
  rw [hh] at l12
  simp only
  rw [bLB l12, ifNT]
  exact (dflA (t := 8) (by decide) hC h0 g0 rfl hx9 hh).pre (em.mono mine_d)
theorem dflush_new (hC : PC k P tr) (h : DS k N P tp tr rb o A Z mr p c n ρ M D σ L st wi) (hh : σ.has = false) {k0 : Int} {kr : List Int} (hks : σ.ks = k0 :: kr) :
    OutD 8 k N P tp rb o A Z mr p c st wi ρ M (LL.call 43 [.pointer (some ⟨rb, o, none⟩), pt mr] M) (flushW L (beginW P σ)) := by
  rw [L_call43, E43]
  have hk := hC.hk
  have s0 := same_app M [AObj.cells ev0 ⟨false, 0⟩]
  have g0 := cells_new M ev0 0
  generalize M ++ [AObj.cells ev0 ⟨false, 0⟩] = M0 at s0 g0 ⊢
  obtain ⟨ρ0, e0, hx9⟩ := tmp_newt (ρ := ρ) 8 s0
  have em := e0.mono (K' := MineD k) (fun _ h => h.elim)
  have h0 := h.mine hC (h.I.ext e0 (fun _ _ h => h) (fun h => h) (fun h => h)) em h.ok
  refine OutD.pre (ρ' := ρ0) (M' := M0) ?_ (em.mono mine_d)
  have hk0 := h0.ok.ks.2 k0 (by rw [hks]; simp)
  have l12 := h0.I.at.2.2.2.1
  have l11 := h0.I.at.2.2.1
  have hkv := h0.I.rs.kv
  rw [hh] at l12
  rw [hks] at hkv l11
  obtain ⟨kb, ko, ekp, hkb, hr⟩ := hkv.head
  have r0 : M0.ld kb ko = some (.int .i64 k0) := hr 0 _ rfl (by decide)
  have hkt := hkv.tail
  rw [ekp] at l11 hkt
  rw [Option.map_some] at hkt
  have hg : (0 : Int) ≤ 0 ∧ (0 : Int) < Int.ofNat (k0 :: kr).length := by simp only [ofN, List.length_cons]; omega
  have hg1 : (0 : Int) ≤ 1 ∧ (1 : Int) ≤ Int.ofNat (k0 :: kr).length ∧ Int.ofNat (k0 :: kr).length ≤ Int.ofNat (k0 :: kr).length := by simp only [ofN, List.length_cons]; omega
  have ht : Int.toNat (Int.ofNat (k0 :: kr).length - 1) = kr.length := by simp only [ofN, List.length_cons]; omega
  simp only
  rw [bLB l12, ifNF, bLS l11]
  simp only [↓if_pos hg]
  rw [bLI r0]
  obtain ⟨M1, v1, v2, v3, v4, v5⟩ := h0.I.put hk 13 [.int .i64 k0] (by show 13 + 1 ≤ 31; decide)
  have hI1 : IsD ρ0 k N P tp M1 rb o A Z { D with js := { D.js with a := .int .i64 k0 } } σ :=
    ⟨v2, h0.I.cw, v4.sl, v4.cq, v4.pd, v4.cp, v4.kv, v4.ck, fun h => (by rw [hh] at h; cases h), v4.cl, v4.lt, v4.c0⟩
  have l11' := hI1.at.2.2.1
  simp only at l11'
  rw [hks, ekp] at l11'
  rw [bX v1, bLS l11']
  simp only [↓if_pos hg1, Option.map_some, ht]
  obtain ⟨M2, w1, w2, w3, w4, w5⟩ := hI1.put hk 11 [.slice (some ⟨kb, ko + 1, none⟩) kr.length (if D.kc = 1 then 1 else 0)] (by show 11 + 1 ≤ 31; decide)
  have hck : Col M0 ρ0 (blk (some (⟨kb, ko + 1, none⟩ : Addr))) (k, 2) := by have := h0.I.rs.ck; rw [ekp] at this; exact this
  have x02 : Ext (fun c => c = (1, 1)) ρ0 M0 ρ0 M2 := v3.trans w3
  have n11 : ∀ {c : Nat × Nat}, c.1 = k → ¬ (fun c : Nat × Nat => c = (1, 1)) c := fun hc h => hk.2 (by rw [← hc, h])
  have hI2 : IsD ρ0 k N P tp M2 rb o A Z { D with js := { D.js with a := .int .i64 k0 }, kp := some ⟨kb, ko + 1, none⟩, kc := if D.kc = 1 then 1 else 0 } { σ with ks := kr } := by
    obtain ⟨S, t, hS⟩ := x02.same
    exact ⟨w2, h0.I.cw, w4.sl, w4.cq, w4.pd, w4.cp, hkt.same t (Ext.free (K := fun c => c = (1, 1)) hck hS (n11 rfl)), hck.ext x02, fun h => (by rw [show ({ σ with ks := kr } : WS).has = σ.has from rfl, hh] at h; cases h), w4.cl, w4.lt, w4.c0⟩
  have l13 : M2.ld rb (o + 13) = some (.int .i64 k0) := hI2.hd.ld 13 rfl
  rw [bX w1, bLI l13]
  obtain ⟨r1, r2, r3, r4⟩ := hC.ok.rt
  have hes : σ.es.length ≤ 4096 := by have := h.ok.es.1; have := hC.ok.rm; omega
  obtain ⟨M3, a, ac, b, bc, t1, t2, t3, t4, t5, t6⟩ := rtake_spec (hI2.db hk) hes (by omega) k0
  simp only at t1 t2 t3 t4 t5 t6
  have x3 : Ext (fun c => c = (1, 1)) ρ0 M2 (upd ρ0 M2.length fun z => if z ∈ blk a then (k, 4) else (k, 1)) M3 := Ext.upd t4 (fun z hz _ => by simp only [List.mem_singleton] at hz; subst hz; exact h0.I.cw) _
  generalize hρ3 : (upd ρ0 M2.length fun z => if z ∈ blk a then (k, 4) else (k, 1)) = ρ3 at x3
  have hcb : Col M3 ρ3 (blk b) (k, 1) := fun z hz => ⟨t2.sl.lt z hz, by rw [← hρ3, upd_ge (t6 z hz), if_neg (fun ha => (t5 z ha).2 hz)]⟩
  have hca : Col M3 ρ3 (blk a) (k, 4) := fun z hz => ⟨t3.lt z hz, by rw [← hρ3, upd_ge (t5 z hz).1, if_pos hz]⟩
  have hI3 := hI2.buf hk x3 (fun c h => .inl h) t2 hcb
  simp only at hI3
  have hrd3 : RdL M3 encE a (σ.es.filter (inS P.s k0)).length (σ.es.filter (inS P.s k0)) := ⟨rfl, fun h0 => let ⟨a, e, c⟩ := t3.pos h0; ⟨a, e, c.rd⟩⟩
  rw [bX t1, bS]
  obtain ⟨M4, y1, y2, y3, y4, y5⟩ := hI3.put hk 14 [.slice a (σ.es.filter (inS P.s k0)).length ac] (by show 14 + 1 ≤ 31; decide)
  have hI4 : IsD ρ3 k N P tp M4 rb o A Z { D with js := { D.js with a := .int .i64 k0, b := .slice a (σ.es.filter (inS P.s k0)).length ac }, kp := some ⟨kb, ko + 1, none⟩, kc := if D.kc = 1 then 1 else 0, q := b, qc := bc } { σ with ks := kr, es := σ.es.filter (outS P.s k0) } :=
    ⟨y2, hI3.cw, y4.sl, y4.cq, y4.pd, y4.cp, y4.kv, y4.ck, fun h => (by rw [show ({ σ with ks := kr, es := σ.es.filter (outS P.s k0) } : WS).has = σ.has from rfl, hh] at h; cases h), y4.cl, y4.lt, y4.c0⟩
  rw [bX y1]
  have s5 := same_app M4 [AObj.cells [.int .i64 0, .slice none 0 0, .int .i64 0, .bool false, .int .u64 0, .int .i64 0] ⟨false, 0⟩]
  have g5 := cells_new M4 [.int .i64 0, .slice none 0 0, .int .i64 0, .bool false, .int .u64 0, .int .i64 0] 0
  generalize M4 ++ [AObj.cells [.int .i64 0, .slice none 0 0, .int .i64 0, .bool false, .int .u64 0, .int .i64 0] ⟨false, 0⟩] = M5 at s5 g5 ⊢
  have hI5 := hI4.st s5
  have i0 : M5.ld rb o = some (.int .i64 P.p) := hI5.hd.ld0 rfl
  have i1 : M5.ld rb (o + 1) = some (.int .i64 P.s) := hI5.hd.ld 1 rfl
  have i13 : M5.ld rb (o + 13) = some (.int .i64 k0) := hI5.hd.ld 13 rfl
  have i14 : M5.ld rb (o + 14) = some (.slice a (σ.es.filter (inS P.s k0)).length ac) := hI5.hd.ld 14 rfl
  have hrd5 : RdL M5 encE a (σ.es.filter (inS P.s k0)).length (σ.es.filter (inS P.s k0)) := by
    obtain ⟨S, t, hS⟩ := y3.same
    exact (hrd3.same t (Ext.free (K := fun c => c = (1, 1)) hca hS (n11 rfl))).same s5 (by simp)
  have hca5 : Col M5 ρ3 (blk a) (k, 4) := (hca.ext y3).ext (K := fun _ => False) (Ext.of s5 (fun z hz => by simp at hz))
  have hok : FlOk P.p P.s k0 (σ.es.filter (inS P.s k0)) := by
    refine ⟨⟨hC.ok.rt, hk0⟩, ?_, fun e he => ?_⟩
    · have := List.length_filter_le (inS P.s k0) σ.es; omega
    · obtain ⟨h1, h2⟩ := List.mem_filter.1 he
      have := h.ok.es.2 e h1
      unfold inS at h2
      exact ⟨this.1, this.2, of_decide_eq_true h2⟩
  obtain ⟨M6, oa, oc, e6, d6, t7, f6⟩ := (rnew33 (p := P.p) (s := P.s) (st := k0) (qc := ac) hrd5).1 hok
  obtain ⟨q1, q2⟩ := adds_len P.s k0 (σ.es.filter (inS P.s k0)) (by have := hok.2.1; omega)
  obtain ⟨z, rfl, hz⟩ := d6.2 q1
  have x6 : Ext (fun _ => False) ρ3 M5 (upd ρ3 M5.length fun _ => (k, 3)) M6 := Ext.upd t7 (fun z hz => by simp at hz) _
  have hzc : (upd ρ3 M5.length fun _ => (k, 3)) z = (k, 3) := upd_ge (f6 z (by simp))
  generalize (upd ρ3 M5.length fun _ => (k, 3)) = ρ6 at x6 hzc
  have hI6 := hI5.ext x6 (fun _ _ h => h) (fun h => h) (fun h => h)
  have hchk : chkOk [(16, 12)] [(16, M4.length)] [(12, (M5, M6))] = true := by simp [chkOk, List.lookup, ver_same t7 g5.lt (by simp)]
  rw [bLI i0, bLI i1, bLI i13, bLS i14, bX e6]
  obtain ⟨M7, j1, j2, j3, j4⟩ := (g5.same t7 (by simp)).wr (o := 0) (vs := [.int .i64 (1 + 2 * P.s + 3 * P.p), .slice (some ⟨z, 0, none⟩) (flAdds P.s k0 (σ.es.filter (inS P.s k0))).length oc, .int .i64 ((flAdds P.s k0 (σ.es.filter (inS P.s k0))).length : Nat), .bool false, .int .u64 0, .int .i64 0]) (by exact (by decide : 0 + 6 ≤ 6))
  have j2' : Cells M7 M4.length [.int .i64 (1 + 2 * P.s + 3 * P.p), .slice (some ⟨z, 0, none⟩) (flAdds P.s k0 (σ.es.filter (inS P.s k0))).length oc, .int .i64 ((flAdds P.s k0 (σ.es.filter (inS P.s k0))).length : Nat), .bool false, .int .u64 0, .int .i64 0] := j2
  rw [bT2, bG0, bA6, bI0, bS1, bI2, bB3, bI4, bI5, bG1, bB, bX j1]
  simp only [hchk, if_true]
  have hrbl : rb < M4.length := y2.cs.lt
  have h4l := hI4.rs
  have t46 : Same M4 M6 [] := (s5.trans t7).mono (by simp)
  have t47 : Same M4 M7 [] := (t46.trans j3).mono' (fun b hb hlt => by simp at hb; omega)
  have t57 : Same M5 M7 [M4.length] := (t7.trans j3).mono (by simp)
  have x47 : Ext (fun _ => False) ρ3 M4 (upd ρ3 M4.length fun _ => (k, 3)) M7 := Ext.upd t47 (fun z hz => by simp at hz) _
  have zge : M4.length ≤ z := Nat.le_trans s5.le (f6 z (by simp))
  have zlt : M4.length < z := by have := f6 z (by simp); have := g5.lt; omega
  have hz7 : (upd ρ3 M4.length fun _ => (k, 3)) z = (k, 3) := upd_ge zge
  generalize (upd ρ3 M4.length fun _ => (k, 3)) = ρ7 at x47 hz7
  have hI7 := hI4.ext x47 (fun _ _ h => h) (fun h => h) (fun h => h)
  have hca7 : Col M7 ρ7 (blk a) (k, 4) := (hca.ext y3).ext x47
  have hrd7 : RdL M7 encE a (σ.es.filter (inS P.s k0)).length (σ.es.filter (inS P.s k0)) := by
    obtain ⟨S, t, hS⟩ := y3.same
    exact (hrd3.same t (Ext.free (K := fun c => c = (1, 1)) hca hS (n11 rfl))).same t47 (by simp)
  have hz7r : Rd M7 z ((flAdds P.s k0 (σ.es.filter (inS P.s k0))).flatMap encA) := hz.same j3 (by simp; omega)
  rw [P43_14_eq]
  have u0 : M7.ld M4.length 0 = some (.int .i64 (1 + 2 * P.s + 3 * P.p)) := j2'.ld 0
  have u1 : M7.ld M4.length 1 = some (.slice (some ⟨z, 0, none⟩) (flAdds P.s k0 (σ.es.filter (inS P.s k0))).length oc) := j2'.ld 1
  have u2 : M7.ld M4.length 2 = some (.int .i64 ((flAdds P.s k0 (σ.es.filter (inS P.s k0))).length : Nat)) := j2'.ld 2
  have u3 : M7.ld M4.length 3 = some (.bool false) := j2'.ld 3
  have u4 : M7.ld M4.length 4 = some (.int .u64 0) := j2'.ld 4
  have u5 : M7.ld M4.length 5 = some (.int .i64 0) := j2'.ld 5
  simp only
  rw [bLI u0, bLS u1, bLI u2, bLB u3, bLI u4, bLI u5]
  obtain ⟨M8, p1, p2, p3, p4, p5⟩ := hI7.put hk 15 [.int .i64 (1 + 2 * P.s + 3 * P.p), .slice (some ⟨z, 0, none⟩) (flAdds P.s k0 (σ.es.filter (inS P.s k0))).length oc, .int .i64 ((flAdds P.s k0 (σ.es.filter (inS P.s k0))).length : Nat), .bool false, .int .u64 0, .int .i64 0] (by show 15 + 6 ≤ 31; decide)
  have hI8 : IsD ρ7 k N P tp M8 rb o A Z { D with js := ⟨.int .i64 k0, .slice a (σ.es.filter (inS P.s k0)).length ac, .int .i64 (1 + 2 * P.s + 3 * P.p), .slice (some ⟨z, 0, none⟩) (flAdds P.s k0 (σ.es.filter (inS P.s k0))).length oc, .int .i64 ((flAdds P.s k0 (σ.es.filter (inS P.s k0))).length : Nat), .bool false, .int .u64 0, .int .i64 0⟩, kp := some ⟨kb, ko + 1, none⟩, kc := if D.kc = 1 then 1 else 0, q := b, qc := bc } { σ with ks := kr, es := σ.es.filter (outS P.s k0) } :=
    ⟨p2, hI7.cw, p4.sl, p4.cq, p4.pd, p4.cp, p4.kv, p4.ck, fun h => (by rw [show ({ σ with ks := kr, es := σ.es.filter (outS P.s k0) } : WS).has = σ.has from rfl, hh] at h; cases h), p4.cl, p4.lt, p4.c0⟩
  rw [bX p1]
  obtain ⟨M9, n1, n2, n3, n4, n5⟩ := hI8.put hk 12 [.bool true] (by show 12 + 1 ≤ 31; decide)
  rw [bX n1]
  have x79 : Ext (fun c => c = (1, 1)) ρ7 M7 ρ7 M9 := p3.trans n3
  have hbe : beginW P σ = { σ with has := true, st := k0, ks := kr, en := σ.es.filter (inS P.s k0), es := σ.es.filter (outS P.s k0), fs := flNew P.p P.s k0 (σ.es.filter (inS P.s k0)) } := by
    unfold beginW; rw [hks]; rfl
  have hI9 : IsD ρ7 k N P tp M9 rb o A Z { D with js := ⟨.int .i64 k0, .slice a (σ.es.filter (inS P.s k0)).length ac, .int .i64 (1 + 2 * P.s + 3 * P.p), .slice (some ⟨z, 0, none⟩) (flAdds P.s k0 (σ.es.filter (inS P.s k0))).length oc, .int .i64 ((flAdds P.s k0 (σ.es.filter (inS P.s k0))).length : Nat), .bool false, .int .u64 0, .int .i64 0⟩, kp := some ⟨kb, ko + 1, none⟩, kc := if D.kc = 1 then 1 else 0, q := b, qc := bc, ep := a, ec := ac, z := z, zc := oc } (beginW P σ) := by
    rw [hbe]
    obtain ⟨S, t, hS⟩ := x79.same
    refine ⟨n2, hI7.cw, n4.sl, n4.cq, n4.pd, n4.cp, n4.kv, n4.ck, fun _ => ⟨rfl, rd_ext hz7r x79 (by rw [hz7]; exact n11 rfl), hz7, hrd7.same t (Ext.free (K := fun c => c = (1, 1)) hca7 hS (n11 rfl)), hca7.ext x79⟩, n4.cl, n4.lt, n4.c0⟩
  have xt : Ext (MineD k) ρ0 M0 ρ7 M9 := ((x02.mono row_m).trans (x3.mono row_m)).trans ((y3.mono row_m).trans ((x47.mono (fun _ h => h.elim)).trans (x79.mono row_m)))
  have h9 := h0.mine hC hI9 xt (beginW_ok hC.ok h0.ok)
  obtain ⟨kk4, kk9⟩ := tmp_keept g0 hx9 xt (nmineD hk (by decide))
  exact (dflA (t := 8) (by decide) hC h9 kk4 rfl kk9 rfl).pre (xt.mono mine_d)
end
section
variable {k N : Nat} {P : WP} {tp : Option Addr} {tr : List Row} {rb o : Nat} {A Z : List Value} {mr : Nat} {p : Option Addr} {c n : Nat} {ρ ρ' : Cl} {M M' : AMem} {D D' : DB} {σ σ' : WS} {L : List Int} {st wi : Nat}
theorem dput (hC : PC k P tr) (h : IsD ρ k N P tp M rb o A Z D σ) {x : Sp} (hx : SpOk P x) (hes : (σ.es.length : Int) ≤ P.room) :
    ∃ M' ρ' D', LL.call 44 [.pointer (some ⟨rb, o + 7, none⟩), .agg #[.int .i64 x.px, .int .i64 x.r, .int .i64 x.g, .int .i64 x.b]] M = some (.bool (putE P.room x.px x.r x.g x.b σ.es).isSome, M') ∧ IsD ρ' k N P tp M' rb o A Z D' { σ with es := (putE P.room x.px x.r x.g x.b σ.es).getD σ.es } ∧ Ext (MineD k) ρ M ρ' M' ∧ D'.pp = D.pp ∧ D'.pc = D.pc := by
  have hrm := hC.ok.rm
  obtain ⟨M', q', qc', e1, e2, e3, e4⟩ := rput_spec (h.db hC.hk) ⟨hes, hrm.1, hrm.2⟩ hx.1 hx.2
  have e : Ext (fun c => c = (1, 1) ∨ c = (k, 1)) ρ M (upd ρ M.length fun _ => (k, 1)) M' := Ext.upd e3 (fun z hz _ => by
    rcases List.mem_cons.1 hz with rfl | hz
    · exact .inl h.cw
    · exact .inr (h.rs.cq z hz).2) _
  have hc : Col M' (upd ρ M.length fun _ => (k, 1)) (blk q') (k, 1) := fun z hz => by
    refine ⟨e2.sl.lt z hz, ?_⟩
    by_cases hl : z < M.length
    · rw [upd_lt hl]
      rcases e4 z hz with hq | hq
      · exact (h.rs.cq _ hq).2
      · omega
    · rw [upd_ge (by omega)]
  exact ⟨M', _, _, e1, h.buf hC.hk e (fun c h => h) e2 hc, e.mono (fun c h => by
    rcases h with rfl | rfl
    · exact .inr rfl
    · exact .inl rfl), rfl, rfl⟩
noncomputable def dStr (rb o mr x4 : Nat) (M : AMem) : Res :=
  Option.bind (LL.call 45 [.pointer (some ⟨rb, o + 7, none⟩)] M) fun r_14 => Option.bind (sliceOf? (some r_14.1)) fun s_15 => Option.bind (AMem.wr r_14.2 rb (o + 11) [.slice s_15.1 s_15.2.1 s_15.2.2]) fun M_17 => P16_34 LL (some ⟨rb, o, none⟩) (some ⟨mr, 0, none⟩) x4 M_17
theorem dgather (hC : PC k P tr) {x4 : Nat} : ∀ (l : List Sp) (ρ : Cl) (M : AMem) (D : DB) (σ : WS), σ.pl = l → WOk P n σ → IsD ρ k N P tp M rb o A Z D σ →
    ∃ M' ρ' D', P16_20 LL (some ⟨rb, o, none⟩) (some ⟨mr, 0, none⟩) x4 M = (if (gathW P σ).pl.isEmpty = true then P16_39 LL (some ⟨rb, o, none⟩) (some ⟨mr, 0, none⟩) x4 M' else dStr rb o mr x4 M') ∧ IsD ρ' k N P tp M' rb o A Z D' (gathW P σ) ∧ Ext (MineD k) ρ M ρ' M'
  | [], ρ, M, D, σ, hl, hok, h => by
    obtain ⟨⟨l0, l1, l2, l3, l4, l5, l6⟩, l10, l11, l12, l29, l30⟩ := h.at
    rw [P16_20_eq LL L_loop]
    simp only
    rw [bLS l6, ifDn (by simp [hl])]
    have : gathW P σ = σ := by
      cases σ; simp only at hl; simp [gathW, putAll, hl]
    rw [this, hl]
    exact ⟨M, ρ, D, rfl, h, .refl _ _ _⟩
  | x :: l, ρ, M, D, σ, hl, hok, h => by
    obtain ⟨⟨l0, l1, l2, l3, l4, l5, l6⟩, l10, l11, l12, l29, l30⟩ := h.at
    have hpd := h.rs.pd
    rw [hl] at hpd
    obtain ⟨b, ob, ep, hb, hr⟩ := hpd.head
    have r0 : M.ld b ob = some (.int .i64 x.px) := hr 0 _ rfl (by decide)
    have r1 := hr 1 _ rfl (by decide)
    have r2 := hr 2 _ rfl (by decide)
    have r3 := hr 3 _ rfl (by decide)
    rw [ep, hl] at l6
    rw [P16_20_eq LL L_loop]
    have hg : (0 : Int) ≤ 0 ∧ (0 : Int) < Int.ofNat (x :: l).length := by rw [ofN, List.length_cons]; omega
    simp only
    rw [bLS l6, ifD (by simp only [ofN, List.length_cons]; omega), bLS l6]
    simp only [↓if_pos hg]
    have hx := hok.pl.2 x (by rw [hl]; simp)
    obtain ⟨M1, ρ1, D1, e1, e2, e3, e4, e5⟩ := dput hC h hx hok.es.1
    obtain ⟨k1, k2⟩ := putE_ok hC.ok.rm.1 hx hok.es
    rw [bLI r0, bLI r1, bLI r2, bLI r3, bX e1, bB]
    cases hp : putE P.room x.px x.r x.g x.b σ.es with
    | none =>
      rw [hp] at e2
      have : { σ with es := (none : Option (List En)).getD σ.es } = gathW P σ := by
        unfold gathW; cases σ; simp only at hl hp; simp [putAll, hp, hl]
      rw [this] at e2
      have hne : (gathW P σ).pl.isEmpty = false := by
        unfold gathW; rw [hl]; simp [putAll, hp]
      rw [hne, show (!(none : Option (List En)).isSome) = true from rfl, ifT]
      exact ⟨M1, ρ1, D1, rfl, e2, e3⟩
    | some es' =>
      rw [hp] at e2
      simp only [Option.getD_some] at e2
      have l6' := e2.at.1.2.2.2.2.2.2
      simp only at l6'
      rw [e4, e5, ep, hl] at l6'
      have hg1 : (0 : Int) ≤ 1 ∧ (1 : Int) ≤ Int.ofNat (x :: l).length ∧ Int.ofNat (x :: l).length ≤ Int.ofNat (x :: l).length := by rw [ofN, List.length_cons]; omega
      have ht : Int.toNat (Int.ofNat (x :: l).length - 1) = l.length := by rw [ofN, List.length_cons]; omega
      rw [show (!(some es').isSome) = false from rfl, ifF, bLS l6']
      simp only [↓if_pos hg1, Option.map_some, ht]
      obtain ⟨M2, w1, w2, x2, w4, w5⟩ := e2.put hC.hk 6 [.slice (some ⟨b, ob + 4, none⟩) l.length (if D.pc = 4 then 4 else 0)] (by show 6 + 1 ≤ 31; decide)
      have hp2 := hpd.tail
      rw [ep, Option.map_some] at hp2
      have hbN : ∀ z ∈ blk (some (⟨b, ob + 4, none⟩ : Addr)), z < N := fun z hz => h.rs.cp (by rw [hl]; simp) z (by rw [ep]; exact hz)
      have hv : View encS 4 M2 (some ⟨b, ob + 4, none⟩) l := view_arg hp2 (fun _ => hbN) h.rs.lt h.rs.c0 (e3.trans (x2.mono row_m)) (nmineD0 hC.hk)
      have hI : IsD ρ1 k N P tp M2 rb o A Z { D1 with pp := some ⟨b, ob + 4, none⟩, pc := if D.pc = 4 then 4 else 0 } { σ with es := es', pl := l } :=
        ⟨w2, e2.cw, w4.sl, w4.cq, hv, fun _ => hbN, w4.kv, w4.ck, w4.fl, w4.cl, w4.lt, w4.c0⟩
      have hok2 : WOk P n { σ with es := es', pl := l } :=
        ⟨⟨by have := hok.pl.1; rw [hl, List.length_cons] at this; show l.length ≤ _; omega, fun y hy => hok.pl.2 y (by rw [hl]; simp [show y ∈ l from hy])⟩, k1 es' hp, hok.ks, hok.fr, hok.lo, hok.fl, hok.en, hok.cl⟩
      obtain ⟨M3, ρ3, D3, q1, q2, q3⟩ := dgather hC l ρ1 M2 _ _ rfl hok2 hI
      have hge : gathW P { σ with es := es', pl := l } = gathW P σ := by
        unfold gathW; cases σ; simp only at hl hp; simp [putAll, hp, hl]
      rw [hge] at q1 q2
      exact ⟨M3, ρ3, D3, by rw [bX w1]; exact q1, q2, (e3.trans (x2.mono row_m)).trans q3⟩
theorem tmp_d {x4 : Nat} {cs : List Value} (hk : k ≠ 0 ∧ k ≠ 1) (h4 : Cells M x4 cs) (h9 : ρ x4 = (1, 9)) (e : Ext (MineD k) ρ M ρ' M') : Cells M' x4 cs ∧ ρ' x4 = (1, 9) := tmp_keep h4 h9 e (nmineD hk (by decide))
theorem nours8 {k : Nat} (hk : k ≠ 0 ∧ k ≠ 1) : ¬ OursD k 8 (1, 9) := fun h => by
  rcases h with h | h | h | h
  · exact hk.2 h.symm
  · cases h
  · cases h
  · exact absurd h.2.2 (by decide)
theorem ours89 {k : Nat} : ∀ c, OursD k 8 c → OursD k 9 c := fun c h => by
  rcases h with h | h | h | h
  · exact .inl h
  · exact .inr (.inl h)
  · exact .inr (.inr (.inl h))
  · exact .inr (.inr (.inr ⟨h.1, h.2.1, by omega⟩))
theorem dpass {x4 : Nat} {cs : List Value} {R : WR} (hk : k ≠ 0 ∧ k ≠ 1) (hm : IsRef M mr p c L st wi) (hc : ρ mr = (1, 2) ∧ Col M ρ (blk p) (1, 2)) (h4 : Cells M x4 cs) (hl : cs.length = 5) (h9 : ρ x4 = (1, 9)) {call : Res} (h : OutD 8 k N P tp rb o A Z mr p c st wi ρ M call R) :
    OutD 9 k N P tp rb o A Z mr p c st wi ρ M (Option.bind call fun r_1 => (Option.bind (aggOf? 5 r_1.1) fun cs_2 =>
 (Option.bind (intOf? .i64 (cs_2[0]?)) fun x_3 =>
 (Option.bind (intOf? .i64 (cs_2[1]?)) fun x_4 =>
 (Option.bind (intOf? .i64 (cs_2[2]?)) fun x_5 =>
 (Option.bind (boolOf? (cs_2[3]?)) fun q_6 =>
 (Option.bind (boolOf? (cs_2[4]?)) fun q_7 =>
 (Option.bind (AMem.wr r_1.2 x4 0 [.int .i64 x_3, .int .i64 x_4, .int .i64 x_5, .bool q_6, .bool q_7]) fun M_8 =>
 (Option.bind (intOf? .i64 (AMem.ld M_8 x4 0)) fun x_9 =>
 (Option.bind (intOf? .i64 (AMem.ld M_8 x4 1)) fun x_10 =>
 (Option.bind (intOf? .i64 (AMem.ld M_8 x4 2)) fun x_11 =>
 (Option.bind (boolOf? (AMem.ld M_8 x4 3)) fun q_12 =>
 (Option.bind (boolOf? (AMem.ld M_8 x4 4)) fun q_13 =>
 some (Value.agg #[.int .i64 x_9, .int .i64 x_10, .int .i64 x_11, .bool q_12, .bool q_13], M_8)))))))))))))) R := by
  obtain ⟨M1, ρ1, D1, wi', a1, a2, a3, a4, a5⟩ := h
  obtain ⟨h5, h6⟩ := tmp_keept h4 h9 a5 (nours8 hk)
  obtain ⟨M2, e2, s2⟩ := ev_pass R.ev h5 hl
  rw [bX a1]
  exact outd_tell (by decide) hk a2 a3 a4 (a5.mono ours89) h6 (refcol hm hc a5) e2 s2
theorem d34 {x4 : Nat} {cs : List Value} {R : WR} (hk : k ≠ 0 ∧ k ≠ 1) (hm : IsRef M mr p c L st wi) (hc : ρ mr = (1, 2) ∧ Col M ρ (blk p) (1, 2)) (h4 : Cells M x4 cs) (hl : cs.length = 5) (h9 : ρ x4 = (1, 9))
    (h : OutD 8 k N P tp rb o A Z mr p c st wi ρ M (LL.call 43 [.pointer (some ⟨rb, o, none⟩), pt mr] M) R) :
    OutD 9 k N P tp rb o A Z mr p c st wi ρ M (P16_34 LL (some ⟨rb, o, none⟩) (some ⟨mr, 0, none⟩) x4 M) R := by
  rw [P16_34_eq]
  exact dpass hk hm hc h4 hl h9 h
theorem dStr_spec {x4 : Nat} {cs : List Value} (hC : PC k P tr) (h : DS k N P tp tr rb o A Z mr p c n ρ M D σ L st wi) (h4 : Cells M x4 cs) (hl : cs.length = 5) (h9 : ρ x4 = (1, 9)) (hh : σ.has = false) (hne : σ.es ≠ []) :
    OutD 9 k N P tp rb o A Z mr p c st wi ρ M (dStr rb o mr x4 M) (flushW L (beginW P (stripesW P σ))) := by
  unfold dStr
  obtain ⟨r1, r2, r3, r4⟩ := hC.ok.rt
  have hes : σ.es.length ≤ 4096 := by have := h.ok.es.1; have := hC.ok.rm; omega
  obtain ⟨M1, a, ac, e1, t1, s1, f1⟩ := rstripes_spec (h.I.db hC.hk) hes ⟨by omega, by omega⟩
  rw [bX e1, bS]
  have x1 : Ext (fun _ => False) ρ M (upd ρ M.length fun _ => (k, 2)) M1 := Ext.upd t1 (fun z hz => by simp at hz) _
  have hcol : Col M1 (upd ρ M.length fun _ => (k, 2)) (blk a) (k, 2) := fun z hz => ⟨s1.lt z hz, upd_ge (f1 z hz)⟩
  generalize (upd ρ M.length fun _ => (k, 2)) = ρ1 at x1 hcol
  have hI1 := h.I.ext x1 (fun _ _ h => h) (fun h => h) (fun h => h)
  have hv : View (fun x : Int => [.int .i64 x]) 1 M1 a (strs P.s σ.es P.s.toNat) := View.ints s1
  obtain ⟨M2, w1, w2, w3, w4, w5⟩ := hI1.put hC.hk 11 [.slice a (strs P.s σ.es P.s.toNat).length ac] (by show 11 + 1 ≤ 31; decide)
  have e2 : Ext (MineD k) ρ M ρ1 M2 := (x1.mono (fun _ h => h.elim)).trans (w3.mono row_m)
  have hI2 : IsD ρ1 k N P tp M2 rb o A Z { D with kp := a, kc := ac } (stripesW P σ) := by
    obtain ⟨S, t, hS⟩ := w3.same
    exact ⟨w2, hI1.cw, w4.sl, w4.cq, w4.pd, w4.cp, hv.same t (Ext.free (K := fun c => c = (1, 1)) hcol hS (fun h => hC.hk.2 (congrArg Prod.fst h))), hcol.ext w3, w4.fl, w4.cl, w4.lt, w4.c0⟩
  have hS := h.mine hC hI2 e2 (stripesW_ok hC.ok h.ok)
  obtain ⟨k0, kr, ek⟩ : ∃ k0 kr, (stripesW P σ).ks = k0 :: kr := by
    cases hx : (stripesW P σ).ks with
    | nil => exact absurd hx (stripesW_ne hC.ok h.ok hne)
    | cons k0 kr => exact ⟨k0, kr, rfl⟩
  obtain ⟨j4, j9⟩ := tmp_d hC.hk h4 h9 e2
  rw [bX w1]
  exact (d34 hC.hk hS.mm hS.hc j4 hl j9 (dflush_new hC hS hh ek)).pre (e2.mono mine_d)
end
end Go.Proofs.YtbclhglmdhojdaaGreat
